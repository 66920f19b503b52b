/- The contracts of balefireref10.below, All, points, plus, less, times. -/
import Derived.Test.YtaaahfjpnggkbaaGreatDoorPRef09
import Derived.Test.YtaaahfjpnggkbaaGreatDoorPZ
import Derived.Test.YtaaahfjpnggkbaaGreatDoorPC
set_option linter.unusedVariables false
set_option linter.unusedSimpArgs false
namespace Go.Proofs.YtaaahfjpnggkbaaGreatDoor
open Go.RowKit
attribute [local irreducible] Calls Instr.build Instr.buildSlice
section
variable {p q g h x y r : Nat}
set_option maxRecDepth 100000 in
set_option maxHeartbeats 2000000 in
theorem rbelow_lit {b : Bool} (hq : q < B) (ha : x < B) (hb : b = true ↔ 1 < q ∧ x < q) (w : World) : Calls Tryz.prog 41 #[grp p q g h, num x] w fun e' w' => e' = .returned (.bool b) ∧ Below w.heap.size w w' := by
  have a1 := fun w => rsadd_any (p := p) (g := g) (h := h) ha ha hq w
  cases b
  · have hn : ¬ okM x x q := fun h => by have := hb.2 ⟨h.1, h.2.1⟩; cases this
    rw [if_neg hn, if_neg hn] at a1
    clear hn hb
    have hR := Rep.init w
    go_enter Tryz.func41, Tryz.ntmps41
    go_wp2_with (first | (refine' xAb hR rfl rfl rfl ?_; clear hR; intro blk w hR) | (refine' xAa hR rfl rfl inferInstance ?_; clear hR; intro blk w hR) | (refine' aNq hR rfl rfl rfl ?_) | (refine' aOq hR rfl rfl rfl ?_) | (refine' aDq hR rfl rfl rfl rfl ?_; clear hR; intro w hR) | (go_at_call 129; refine (a1 _).mono ?_; rintro e w ⟨rfl, hb⟩; replace hR := hR.call hb; clear hb))
    go_ret
    exact ⟨rfl, hR.below⟩
  · have hn : okM x x q := ⟨(hb.1 rfl).1, (hb.1 rfl).2, (hb.1 rfl).2⟩
    rw [if_pos hn, if_pos hn] at a1
    generalize (x + x) % q = z at *
    clear hn hb
    have hR := Rep.init w
    go_enter Tryz.func41, Tryz.ntmps41
    go_wp2_with (first | (refine' xAb hR rfl rfl rfl ?_; clear hR; intro blk w hR) | (refine' xAa hR rfl rfl inferInstance ?_; clear hR; intro blk w hR) | (refine' aNq hR rfl rfl rfl ?_) | (refine' aOq hR rfl rfl rfl ?_) | (refine' aDq hR rfl rfl rfl rfl ?_; clear hR; intro w hR) | (go_at_call 129; refine (a1 _).mono ?_; rintro e w ⟨rfl, hb⟩; replace hR := hR.call hb; clear hb))
    go_ret
    exact ⟨rfl, hR.below⟩
set_option maxRecDepth 100000 in
set_option maxHeartbeats 2000000 in
theorem rplus_lit (h1 : 1 < q) (hq : q < B) (ha : x < q) (hb : y < q) (hr : (x + y) % q = r) (w : World) : Calls Tryz.prog 43 #[grp p q g h, num x, num y] w fun e' w' => e' = .returned (num r) ∧ Below w.heap.size w w' := by
  have c1 := fun w => rsadd_any (p := p) (g := g) (h := h) (Nat.lt_trans ha hq) (Nat.lt_trans hb hq) hq w
  rw [if_pos (show okM x y q from ⟨h1, ha, hb⟩), if_pos (show okM x y q from ⟨h1, ha, hb⟩), hr] at c1
  clear ha hb hr h1
  have hR := Rep.init w
  go_enter Tryz.func43, Tryz.ntmps43
  go_wp2_with (first | (refine' xAb hR rfl rfl rfl ?_; clear hR; intro blk w hR) | (refine' xAa hR rfl rfl inferInstance ?_; clear hR; intro blk w hR) | (refine' aNq hR rfl rfl rfl ?_) | (refine' aOq hR rfl rfl rfl ?_) | (refine' aDq hR rfl rfl rfl rfl ?_; clear hR; intro w hR) | (go_at_call 129; refine (c1 _).mono ?_; rintro e w ⟨rfl, hb⟩; replace hR := hR.call hb; clear hb))
  (refine' bodyPost_ret (xBh Tryz.results43 rfl (hR.loadAll (P := Tryz.prog) (ty := 24) ?hm ?hn)) rfl ⟨?_, hR.below⟩; (case hm => first | with_reducible assumption | repeat (first | exact .head _ | with_reducible assumption | apply mC)); (case hn => first | rfl | simp))
  rfl
set_option maxRecDepth 100000 in
set_option maxHeartbeats 2000000 in
theorem rless_lit (h1 : 1 < q) (hq : q < B) (ha : x < q) (hb : y < q) (hr : subN x y q = r) (w : World) : Calls Tryz.prog 47 #[grp p q g h, num x, num y] w fun e' w' => e' = .returned (num r) ∧ Below w.heap.size w w' := by
  have c1 := fun w => rssub_any (p := p) (g := g) (h := h) (Nat.lt_trans ha hq) (Nat.lt_trans hb hq) hq w
  rw [if_pos (show okM x y q from ⟨h1, ha, hb⟩), if_pos (show okM x y q from ⟨h1, ha, hb⟩), hr] at c1
  clear ha hb hr h1
  have hR := Rep.init w
  go_enter Tryz.func47, Tryz.ntmps47
  go_wp2_with (first | (refine' xAb hR rfl rfl rfl ?_; clear hR; intro blk w hR) | (refine' xAa hR rfl rfl inferInstance ?_; clear hR; intro blk w hR) | (refine' aNq hR rfl rfl rfl ?_) | (refine' aOq hR rfl rfl rfl ?_) | (refine' aDq hR rfl rfl rfl rfl ?_; clear hR; intro w hR) | (go_at_call 133; refine (c1 _).mono ?_; rintro e w ⟨rfl, hb⟩; replace hR := hR.call hb; clear hb))
  (refine' bodyPost_ret (xBh Tryz.results47 rfl (hR.loadAll (P := Tryz.prog) (ty := 24) ?hm ?hn)) rfl ⟨?_, hR.below⟩; (case hm => first | with_reducible assumption | repeat (first | exact .head _ | with_reducible assumption | apply mC)); (case hn => first | rfl | simp))
  rfl
set_option maxRecDepth 100000 in
set_option maxHeartbeats 2000000 in
theorem rtimes_lit (h1 : 1 < q) (hq : q < B) (ha : x < q) (hb : y < q) (hr : mulN x y q = r) (w : World) : Calls Tryz.prog 44 #[grp p q g h, num x, num y] w fun e' w' => e' = .returned (num r) ∧ Below w.heap.size w w' := by
  have c1 := fun w => rsmul_any (p := p) (g := g) (h := h) (Nat.lt_trans ha hq) (Nat.lt_trans hb hq) hq w
  rw [if_pos (show okM x y q from ⟨h1, ha, hb⟩), if_pos (show okM x y q from ⟨h1, ha, hb⟩), hr] at c1
  clear ha hb hr h1
  have hR := Rep.init w
  go_enter Tryz.func44, Tryz.ntmps44
  go_wp2_with (first | (refine' xAb hR rfl rfl rfl ?_; clear hR; intro blk w hR) | (refine' xAa hR rfl rfl inferInstance ?_; clear hR; intro blk w hR) | (refine' aNq hR rfl rfl rfl ?_) | (refine' aOq hR rfl rfl rfl ?_) | (refine' aDq hR rfl rfl rfl rfl ?_; clear hR; intro w hR) | (go_at_call 108; refine (c1 _).mono ?_; rintro e w ⟨rfl, hb⟩; replace hR := hR.call hb; clear hb))
  (refine' bodyPost_ret (xBh Tryz.results44 rfl (hR.loadAll (P := Tryz.prog) (ty := 24) ?hm ?hn)) rfl ⟨?_, hR.below⟩; (case hm => first | with_reducible assumption | repeat (first | exact .head _ | with_reducible assumption | apply mC)); (case hn => first | rfl | simp))
  rfl
end
section
variable {p q g h : Nat} {B0 : Nat} {w0 w : World} {L : List (Nat × Obj)} {a : Option Addr} {n cp : Nat} {f : Nat → Nat}
set_option maxRecDepth 100000 in
set_option maxHeartbeats 4000000 in
theorem rall_any (hq : q < B) (hA : NAt B0 w0 L a n cp f) (hn : n ≤ 1000000) (s : Bool) (hs : s = true ↔ 1 < q ∧ ∀ j, j < n → f j < q) (hR : Rep B0 w0 L w) :
    Calls Tryz.prog 40 #[grp p q g h, .slice a n cp] w fun en w' => en = .returned (.bool s) ∧ Rep B0 w0 L w' := by
  classical
  obtain ⟨n0, h0⟩ : ∃ n, n = 0 := ⟨_, rfl⟩
  have L0 : n0 < B := lt_B (by omega)
  by_cases h1 : 1 < q
  case neg =>
    obtain rfl : s = false := by
      cases s
      · rfl
      · exact absurd (hs.1 rfl).1 h1
    have b0 := fun w => rbelow_lit (p := p) (g := g) (h := h) (b := false) hq L0 ⟨fun h => (by cases h), fun h => absurd h.1 h1⟩ w
    rw [show num n0 = Value.agg #[.int .u64 0, .int .u64 0, .int .u64 0, .int .u64 0] by rw [h0]; exact xBs.symm] at b0
    clear hA hs h1 h0 L0
    go_enter Tryz.func40, Tryz.ntmps40
    go_wp2_with (first | (refine' xAb hR rfl rfl rfl ?_; clear hR; intro blk w hR) | (refine' xAa hR rfl rfl inferInstance ?_; clear hR; intro blk w hR) | (refine' aNq hR rfl rfl rfl ?_) | (refine' aOq hR rfl rfl rfl ?_) | (refine' aDq hR rfl rfl rfl rfl ?_; clear hR; intro w hR) | (go_at_call 41; refine (b0 _).mono ?_; rintro e w ⟨rfl, hb⟩; replace hR := hR.call hb; clear hb))
    go_ret
    exact ⟨rfl, hR.drop1⟩
  have b0 := fun w => rbelow_lit (p := p) (g := g) (h := h) (b := true) hq L0 ⟨fun _ => ⟨h1, by omega⟩, fun _ => rfl⟩ w
  rw [show num n0 = Value.agg #[.int .u64 0, .int .u64 0, .int .u64 0, .int .u64 0] by rw [h0]; exact xBs.symm] at b0
  have bl := fun (x : Nat) (hx : x < B) (b : Bool) (hb : b = true ↔ x < q) (w : World) => rbelow_lit (p := p) (g := g) (h := h) (b := b) hq hx (hb.trans ⟨fun hh => ⟨h1, hh⟩, fun hh => hh.2⟩) w
  have hs' : s = true ↔ ∀ j, j < n → f j < q := hs.trans ⟨fun hh => hh.2, fun hh => ⟨h1, hh⟩⟩
  replace hs' := Held.mk hs'
  replace hA := Held.mk hA
  clear hs h1 h0 L0
  go_enter Tryz.func40, Tryz.ntmps40
  go_wp2_with (first | (refine' xAb hR rfl rfl rfl ?_; clear hR; intro blk w hR) | (refine' xAa hR rfl rfl inferInstance ?_; clear hR; intro blk w hR) | (refine' aNq hR rfl rfl rfl ?_) | (refine' aOq hR rfl rfl rfl ?_) | (refine' aDq hR rfl rfl rfl rfl ?_; clear hR; intro w hR) | (go_at_call 41; refine (b0 _).mono ?_; rintro e w ⟨rfl, hb⟩; replace hR := hR.call hb; clear hb))
  try simp only [Act.put, kA, kB, List.setIfInBounds_toArray]
  refine' xCh hR (false :: false :: false :: false :: false :: false :: false :: false :: false :: false :: true :: true :: true :: true :: true :: true :: true :: true :: true :: true :: true :: true :: true :: []) (fun (i : Nat) l => l.set 5 (.int .i64 (i : Int))) (fun i => n - i) (fun i => i ≤ n ∧ ∀ k, k < i → f k < q) 0 ?h0 ?hO ?hs
  case h0 => exact xAr rfl rfl rfl
  case hO => exact ⟨Nat.zero_le _, fun j hj => absurd hj (Nat.not_lt_zero j)⟩
  case hs =>
    clear hR b0
    intro i tm w hi ht hR K hK
    obtain ⟨hi, hall⟩ := hi
    replace hall := Held.mk hall
    have g0 : 0 ≤ (i : Int) := by omega
    by_cases hik : i = n
    · subst hik
      have t1 : ¬ (i : Int) < (i : Int) := by omega
      obtain rfl : s = true := hs'.out.2 hall.out
      clear hK hi hA hs' hall bl
      repeat (first | (obtain ⟨x, tm', e, ht'⟩ := xAg ht; clear ht; subst e; have ht := ht'; clear ht') | (obtain ⟨tm', e, ht'⟩ := xAd ht; clear ht; subst e; have ht := ht'; clear ht'))
      obtain rfl := xAn ht
      clear ht
      go_wp2_with (first | (refine' xAb hR rfl rfl rfl ?_; clear hR; intro blk w hR) | (refine' xAa hR rfl rfl inferInstance ?_; clear hR; intro blk w hR) | (refine' aNq hR rfl rfl rfl ?_) | (refine' aOq hR rfl rfl rfl ?_) | (refine' aDq hR rfl rfl rfl rfl ?_; clear hR; intro w hR) | fail)
      go_ret
      exact ⟨rfl, hR.drop1⟩
    · have hin : i < n := by omega
      have g1 : (i : Int) < (n : Int) := by omega
      obtain ⟨bb, off, rfl, hx⟩ := hA.out.at' (by omega)
      have lf := hA.out.lt i hin
      have ld := fun (b3 : Nat) (w : World) (hw : Rep B0 w0 ((b3, .cells (gl p q g h).toArray 26) :: L) w) => xBr (hx w hw.drop1 i hin)
      obtain ⟨x, hxe⟩ : ∃ x, f i = x := ⟨_, rfl⟩
      rw [hxe] at ld lf
      by_cases hxq : x < q
      · have b1 := bl x lf true ⟨fun _ => hxq, fun _ => rfl⟩
        have hnext : ∀ k, k < i + 1 → f k < q := fun k hk => by
          by_cases hki : k = i
          · rw [hki, hxe]; exact hxq
          · exact hall.out k (by omega)
        have ei : IntKind.i64.wrap ((i : Int) + 1) = ((i + 1 : Nat) : Int) := by rw [IntKind.wrap_i64]; omega
        have hi1 : i + 1 ≤ n := by omega
        have hmu : n - (i + 1) < n - i := by omega
        replace hi1 := Held.mk hi1
        replace hmu := Held.mk hmu
        replace hnext := Held.mk hnext
        clear hi hA hik hin hx hxe hall lf hs' hxq bl
        repeat (first | (obtain ⟨x, tm', e, ht'⟩ := xAg ht; clear ht; subst e; have ht := ht'; clear ht') | (obtain ⟨tm', e, ht'⟩ := xAd ht; clear ht; subst e; have ht := ht'; clear ht'))
        obtain rfl := xAn ht
        clear ht
        go_wp2_with (first | (refine' xAb hR rfl rfl rfl ?_; clear hR; intro blk w hR) | (refine' xAa hR rfl rfl inferInstance ?_; clear hR; intro blk w hR) | (refine' aNq hR rfl rfl rfl ?_) | (refine' aOq hR rfl rfl rfl ?_) | (refine' aDq hR rfl rfl rfl rfl ?_; clear hR; intro w hR) | fail)
        refine xAi hR [0, 0, 0, 0, 0, 0, 0] [] xBt (by kernel_rfl) rfl rfl (fun K hK => ?_)
        clear hR
        repeat ((first | (refine xBa ?_) | (refine' xAm (by decide) rfl (.inl rfl) rfl ?ha ?_) | (refine' xAm (by decide) rfl (.inr rfl) rfl ?ha ?_) | (refine' aQq rfl rfl rfl ?ha ?_) | (refine' aRq rfl rfl rfl ?ha ?_) | (refine' aSq rfl rfl rfl ?ha ?_) | (refine' aTq rfl rfl rfl ?ha ?_) | (refine' aUq rfl rfl rfl ?ha ?_) | ((first | refine' xAf (by decide) rfl rfl rfl rfl (fun w => ?hq) ?ha ?_ | refine' xAv (by decide) rfl rfl rfl rfl (fun w => ?hq) ?ha ?_ | refine' xAj (by decide) rfl rfl rfl (fun w => ?hq) ?ha ?_ | refine' xAe (by decide) rfl rfl rfl (fun w => ?hq) ?ha ?_ | refine' xAk (by decide) rfl rfl rfl (fun w => ?hq) ?ha ?_ | refine' xAu (by decide) rfl rfl rfl rfl (fun w => ?hq) ?ha ?_ | refine' xAt (by decide) rfl rfl rfl rfl rfl rfl (fun w => ?hq) ?ha ?_ | refine' xAs (by decide) rfl rfl (fun w => ?hq) ?ha ?_ | refine' xAl (by decide) rfl rfl rfl (fun w => ?hq) ?ha ?_ | refine' xAw (by decide) rfl rfl rfl (fun w => ?hq) ?ha ?_); (case hq => go_simp; try rfl)) | (refine' xAh (by decide) rfl rfl rfl ?ha ?_) | (refine' xBb (by decide) rfl rfl rfl rfl ?ha ?_) | (refine' xAz (by decide) rfl ?ha ?_) | (refine' xBn rfl rfl rfl (ld _) ?ha ?_; (case ha => simp only [kP, kQ, kA, kB]; try rfl)) | (refine' xBd rfl rfl rfl (xBc Tryz.func41 (by kernel_rfl) (by kernel_rfl) _) (fun w => b1 w) ?ha ?_) | (refine' hd_unOp (by decide) rfl rfl rfl (fun w => ?hq) ?ha ?_; (case hq => go_simp; try rfl); (case ha => simp only [kP, kQ, kA, kB]; try rfl))); try (case ha => simp only [kP, kQ, kA, kB]; try rfl))
        refine xBg (hK _ _ ?_)
        clear hK K
        refine xBj (fun Q hQ => ?_)
        try simp only [List.nil_append, List.cons_append]
        repeat ((first | refine' xAq rfl (.inl rfl) rfl ?hk ?ha ?_ | refine' xAq rfl (.inr rfl) rfl ?hk ?ha ?_ | (refine' aKq rfl rfl rfl rfl rfl rfl ?hk ?ha ?_) | (refine' aLq rfl rfl rfl rfl rfl ?hk ?ha ?_) | (refine' aMq rfl rfl rfl rfl rfl ?hk ?ha ?_) | (refine' xBe rfl (fun w => ?hq) ?hk ?ha ?_; (case hq => go_simp; try rfl))); (case hk => intro p hp; first | exact absurd hp List.not_mem_nil | (obtain rfl := List.mem_singleton.1 hp; repeat (first | exact List.Mem.head _ | with_reducible assumption | apply mC))); (case ha => simp only [kP, kQ, kA, kB]; try rfl))
        refine xBi (fun w hR => hQ _ _ ?_)
        clear hQ Q
        go_wp2_with (first | (refine' xAb hR rfl rfl rfl ?_; clear hR; intro blk w hR) | (refine' xAa hR rfl rfl inferInstance ?_; clear hR; intro blk w hR) | (refine' aNq hR rfl rfl rfl ?_) | (refine' aOq hR rfl rfl rfl ?_) | (refine' aDq hR rfl rfl rfl rfl ?_; clear hR; intro w hR) | fail)
        exact hK.out (i + 1) _ _ ⟨hi1.out, hnext.out⟩ hmu.out (xAr rfl rfl rfl) hR
      · have b1 := bl x lf false ⟨fun h => (by cases h), fun h => absurd h hxq⟩
        obtain rfl : s = false := by
          cases s
          · rfl
          · exact absurd (hxe ▸ hs'.out.1 rfl i hin) hxq
        clear hK hi hA hik hin hx hxe hall lf hs' hxq bl
        repeat (first | (obtain ⟨x, tm', e, ht'⟩ := xAg ht; clear ht; subst e; have ht := ht'; clear ht') | (obtain ⟨tm', e, ht'⟩ := xAd ht; clear ht; subst e; have ht := ht'; clear ht'))
        obtain rfl := xAn ht
        clear ht
        go_wp2_with (first | (refine' xAb hR rfl rfl rfl ?_; clear hR; intro blk w hR) | (refine' xAa hR rfl rfl inferInstance ?_; clear hR; intro blk w hR) | (refine' aNq hR rfl rfl rfl ?_) | (refine' aOq hR rfl rfl rfl ?_) | (refine' aDq hR rfl rfl rfl rfl ?_; clear hR; intro w hR) | fail)
        refine xAi hR [0, 0, 0, 0, 0, 0, 0] [] xBt (by kernel_rfl) rfl rfl (fun K hK => ?_)
        clear hR
        repeat ((first | (refine xBa ?_) | (refine' xAm (by decide) rfl (.inl rfl) rfl ?ha ?_) | (refine' xAm (by decide) rfl (.inr rfl) rfl ?ha ?_) | (refine' aQq rfl rfl rfl ?ha ?_) | (refine' aRq rfl rfl rfl ?ha ?_) | (refine' aSq rfl rfl rfl ?ha ?_) | (refine' aTq rfl rfl rfl ?ha ?_) | (refine' aUq rfl rfl rfl ?ha ?_) | ((first | refine' xAf (by decide) rfl rfl rfl rfl (fun w => ?hq) ?ha ?_ | refine' xAv (by decide) rfl rfl rfl rfl (fun w => ?hq) ?ha ?_ | refine' xAj (by decide) rfl rfl rfl (fun w => ?hq) ?ha ?_ | refine' xAe (by decide) rfl rfl rfl (fun w => ?hq) ?ha ?_ | refine' xAk (by decide) rfl rfl rfl (fun w => ?hq) ?ha ?_ | refine' xAu (by decide) rfl rfl rfl rfl (fun w => ?hq) ?ha ?_ | refine' xAt (by decide) rfl rfl rfl rfl rfl rfl (fun w => ?hq) ?ha ?_ | refine' xAs (by decide) rfl rfl (fun w => ?hq) ?ha ?_ | refine' xAl (by decide) rfl rfl rfl (fun w => ?hq) ?ha ?_ | refine' xAw (by decide) rfl rfl rfl (fun w => ?hq) ?ha ?_); (case hq => go_simp; try rfl)) | (refine' xAh (by decide) rfl rfl rfl ?ha ?_) | (refine' xBb (by decide) rfl rfl rfl rfl ?ha ?_) | (refine' xAz (by decide) rfl ?ha ?_) | (refine' xBn rfl rfl rfl (ld _) ?ha ?_; (case ha => simp only [kP, kQ, kA, kB]; try rfl)) | (refine' xBd rfl rfl rfl (xBc Tryz.func41 (by kernel_rfl) (by kernel_rfl) _) (fun w => b1 w) ?ha ?_) | (refine' hd_unOp (by decide) rfl rfl rfl (fun w => ?hq) ?ha ?_; (case hq => go_simp; try rfl); (case ha => simp only [kP, kQ, kA, kB]; try rfl))); try (case ha => simp only [kP, kQ, kA, kB]; try rfl))
        refine xBg (hK _ _ ?_)
        clear hK K
        refine xBj (fun Q hQ => ?_)
        try simp only [List.nil_append, List.cons_append]
        repeat ((first | refine' xAq rfl (.inl rfl) rfl ?hk ?ha ?_ | refine' xAq rfl (.inr rfl) rfl ?hk ?ha ?_ | (refine' aKq rfl rfl rfl rfl rfl rfl ?hk ?ha ?_) | (refine' aLq rfl rfl rfl rfl rfl ?hk ?ha ?_) | (refine' aMq rfl rfl rfl rfl rfl ?hk ?ha ?_) | (refine' xBe rfl (fun w => ?hq) ?hk ?ha ?_; (case hq => go_simp; try rfl))); (case hk => intro p hp; first | exact absurd hp List.not_mem_nil | (obtain rfl := List.mem_singleton.1 hp; repeat (first | exact List.Mem.head _ | with_reducible assumption | apply mC))); (case ha => simp only [kP, kQ, kA, kB]; try rfl))
        refine xBi (fun w hR => hQ _ _ ?_)
        clear hQ Q
        go_wp2_with (first | (refine' xAb hR rfl rfl rfl ?_; clear hR; intro blk w hR) | (refine' xAa hR rfl rfl inferInstance ?_; clear hR; intro blk w hR) | (refine' aNq hR rfl rfl rfl ?_) | (refine' aOq hR rfl rfl rfl ?_) | (refine' aDq hR rfl rfl rfl rfl ?_; clear hR; intro w hR) | fail)
        go_ret
        exact ⟨rfl, hR.drop1⟩
end
end Go.Proofs.YtaaahfjpnggkbaaGreatDoor
namespace Go.Proofs.YtaaahfjpnggkbaaGreatDoor
open Go.RowKit
attribute [local irreducible] Calls Instr.build Instr.buildSlice
section
variable {p q g h : Nat} {B0 : Nat} {w0 w : World} {L : List (Nat × Obj)} {a : Option Addr} {n cp : Nat} {f : Nat → Nat}
set_option maxRecDepth 100000 in
set_option maxHeartbeats 8000000 in
theorem rpoints_any (hq : q < B) (hA : NAt B0 w0 L a n cp f) (hn : n ≤ 1000000) (s : Bool) (hs : s = true ↔ ptsOK q n f) (hR : Rep B0 w0 L w) :
    Calls Tryz.prog 45 #[grp p q g h, .slice a n cp] w fun en w' => en = .returned (.bool s) ∧ Rep B0 w0 L w' := by
  classical
  by_cases hn0 : n = 0
  · subst hn0
    obtain rfl : s = false := by
      cases s
      · rfl
      · have := (hs.1 rfl).1; omega
    clear hA hs
    have e0 : ((0 : Int) == 0) = true := rfl
    go_enter Tryz.func45, Tryz.ntmps45
    go_wp2_with (first | go_skip | (refine' xAb hR rfl rfl rfl ?_; clear hR; intro blk w hR) | (refine' xAa hR rfl rfl inferInstance ?_; clear hR; intro blk w hR) | (refine' aNq hR rfl rfl rfl ?_) | (refine' aOq hR rfl rfl rfl ?_) | (refine' aDq hR rfl rfl rfl rfl ?_; clear hR; intro w hR) | (refine' xAp hR rfl rfl rfl inferInstance ?hm ?hn ?_; (case hm => first | with_reducible assumption | repeat (first | exact .head _ | with_reducible assumption | apply mC)); (case hn => first | rfl | simp)) | (refine' xAx hR rfl rfl rfl inferInstance ?hm ?hv ?hn ?_; (case hm => first | with_reducible assumption | repeat (first | exact .head _ | with_reducible assumption | apply mC)); (case hv => first | with_reducible assumption | (simp only [kC, kD, kE, kF]; try rfl)); (case hn => first | rfl | simp)) | fail)
    go_ret
    exact ⟨rfl, hR.drop1⟩
  have n1 : ¬ (n : Int) = 0 := by omega
  have n2 : ((n : Int) == 0) = false := by simp; omega
  by_cases hall : 1 < q ∧ ∀ j, j < n → f j < q
  case neg =>
    obtain rfl : s = false := by
      cases s
      · rfl
      · exact absurd (hs.1 rfl).2.2 hall
    have ca := fun (b3 : Nat) (w : World) (hw : Rep B0 w0 ((b3, .cells (gl p q g h).toArray 26) :: L) w) => rall_any (p := p) (g := g) (h := h) hq (hA.mono fun w hw => hw.drop1) hn false ⟨fun hh => (nomatch hh), fun hh => absurd hh hall⟩ hw
    clear hA hs hall
    go_enter Tryz.func45, Tryz.ntmps45
    go_wp2_with (first | go_skip | (refine' xAb hR rfl rfl rfl ?_; clear hR; intro blk w hR) | (refine' xAa hR rfl rfl inferInstance ?_; clear hR; intro blk w hR) | (refine' aNq hR rfl rfl rfl ?_) | (refine' aOq hR rfl rfl rfl ?_) | (refine' aDq hR rfl rfl rfl rfl ?_; clear hR; intro w hR) | (refine' xAp hR rfl rfl rfl inferInstance ?hm ?hn ?_; (case hm => first | with_reducible assumption | repeat (first | exact .head _ | with_reducible assumption | apply mC)); (case hn => first | rfl | simp)) | (refine' xAx hR rfl rfl rfl inferInstance ?hm ?hv ?hn ?_; (case hm => first | with_reducible assumption | repeat (first | exact .head _ | with_reducible assumption | apply mC)); (case hv => first | with_reducible assumption | (simp only [kC, kD, kE, kF]; try rfl)); (case hn => first | rfl | simp)) | (go_at_call 40; refine (ca _ _ hR).mono ?_; clear hR; rintro e w ⟨rfl, hR⟩))
    go_ret
    exact ⟨rfl, hR.drop1⟩
  have ca := fun (b3 : Nat) (w : World) (hw : Rep B0 w0 ((b3, .cells (gl p q g h).toArray 26) :: L) w) => rall_any (p := p) (g := g) (h := h) hq (hA.mono fun w hw => hw.drop1) hn true ⟨fun _ => hall, fun _ => rfl⟩ hw
  have hs' : s = true ↔ ∀ i, i < n → ∀ j, j < i → f j ≠ f i := hs.trans ⟨fun hh => hh.2.1, fun hh => ⟨by omega, hh, hall⟩⟩
  replace hs' := Held.mk hs'
  replace hA := Held.mk hA
  clear hs hall
  go_enter Tryz.func45, Tryz.ntmps45
  go_wp2_with (first | go_skip | (refine' xAb hR rfl rfl rfl ?_; clear hR; intro blk w hR) | (refine' xAa hR rfl rfl inferInstance ?_; clear hR; intro blk w hR) | (refine' aNq hR rfl rfl rfl ?_) | (refine' aOq hR rfl rfl rfl ?_) | (refine' aDq hR rfl rfl rfl rfl ?_; clear hR; intro w hR) | (refine' xAp hR rfl rfl rfl inferInstance ?hm ?hn ?_; (case hm => first | with_reducible assumption | repeat (first | exact .head _ | with_reducible assumption | apply mC)); (case hn => first | rfl | simp)) | (refine' xAx hR rfl rfl rfl inferInstance ?hm ?hv ?hn ?_; (case hm => first | with_reducible assumption | repeat (first | exact .head _ | with_reducible assumption | apply mC)); (case hv => first | with_reducible assumption | (simp only [kC, kD, kE, kF]; try rfl)); (case hn => first | rfl | simp)) | (go_at_call 40; refine (ca _ _ hR).mono ?_; clear hR; rintro e w ⟨rfl, hR⟩))
  clear ca
  try simp only [Act.put, kA, kB, List.setIfInBounds_toArray]
  refine' xCh hR (false :: false :: false :: false :: false :: false :: true :: false :: false :: false :: false :: false :: false :: false :: false :: false :: true :: true :: true :: true :: true :: true :: true :: true :: true :: true :: true :: true :: true :: true :: true :: true :: true :: true :: true :: true :: []) (fun (i : Nat) l => l.set 5 (.int .i64 (i : Int))) (fun i => n - i) (fun i => i ≤ n ∧ ∀ k, k < i → ∀ j, j < k → f j ≠ f k) 0 ?h0 ?hO ?hs
  case h0 => exact xAr rfl rfl rfl
  case hO => exact ⟨Nat.zero_le _, fun j hj => absurd hj (Nat.not_lt_zero j)⟩
  case hs =>
    clear hR
    intro i tm w hi ht hR K hK
    obtain ⟨hi, hno⟩ := hi
    replace hno := Held.mk hno
    have g0 : 0 ≤ (i : Int) := by omega
    by_cases hik : i = n
    · subst hik
      have t1 : ¬ (i : Int) < (i : Int) := by omega
      obtain rfl : s = true := hs'.out.2 hno.out
      clear hK hi hA hs' hno
      repeat (first | (obtain ⟨x, tm', e, ht'⟩ := xAg ht; clear ht; subst e; have ht := ht'; clear ht') | (obtain ⟨tm', e, ht'⟩ := xAd ht; clear ht; subst e; have ht := ht'; clear ht'))
      obtain rfl := xAn ht
      clear ht
      go_wp2_with (first | (refine' xAb hR rfl rfl rfl ?_; clear hR; intro blk w hR) | (refine' xAa hR rfl rfl inferInstance ?_; clear hR; intro blk w hR) | (refine' aNq hR rfl rfl rfl ?_) | (refine' aOq hR rfl rfl rfl ?_) | (refine' aDq hR rfl rfl rfl rfl ?_; clear hR; intro w hR) | fail)
      go_ret
      exact ⟨rfl, hR.drop1⟩
    · have hin : i < n := by omega
      have g1 : (i : Int) < (n : Int) := by omega
      obtain ⟨bb, off, rfl, hx⟩ := hA.out.at' (by omega)
      have lf := hA.out.lt i hin
      have ld := fun (b3 : Nat) (w : World) (hw : Rep B0 w0 ((b3, .cells (gl p q g h).toArray 26) :: L) w) => xBr (hx w hw.drop1 i hin)
      obtain ⟨xv, hxe⟩ : ∃ z, f i = z := ⟨_, rfl⟩
      rw [hxe] at ld lf
      have ei : IntKind.i64.wrap ((i : Int) + 1) = ((i + 1 : Nat) : Int) := by rw [IntKind.wrap_i64]; omega
      have hi1 : i + 1 ≤ n := by omega
      have hmu : n - (i + 1) < n - i := by omega
      replace hi1 := Held.mk hi1
      replace hmu := Held.mk hmu
      replace hxe := Held.mk hxe
      replace lf := Held.mk lf
      replace hx := Held.mk hx
      clear hik
      repeat (first | (obtain ⟨x, tm', e, ht'⟩ := xAg ht; clear ht; subst e; have ht := ht'; clear ht') | (obtain ⟨tm', e, ht'⟩ := xAd ht; clear ht; subst e; have ht := ht'; clear ht'))
      obtain rfl := xAn ht
      clear ht
      go_wp2_with (first | (refine' xAb hR rfl rfl rfl ?_; clear hR; intro blk w hR) | (refine' xAa hR rfl rfl inferInstance ?_; clear hR; intro blk w hR) | (refine' aNq hR rfl rfl rfl ?_) | (refine' aOq hR rfl rfl rfl ?_) | (refine' aDq hR rfl rfl rfl rfl ?_; clear hR; intro w hR) | fail)
      try simp only [Act.put, kA, kB, List.setIfInBounds_toArray]
      refine' xCh hR (false :: false :: false :: false :: false :: false :: false :: false :: false :: false :: false :: false :: false :: false :: false :: false :: false :: false :: false :: false :: false :: false :: true :: true :: true :: true :: true :: true :: true :: true :: true :: true :: true :: true :: true :: true :: []) (fun (k : Nat) l => l.set 6 (.int .i64 (k : Int))) (fun k => i - k) (fun k => k ≤ i ∧ ∀ j, j < k → f j ≠ xv) 0 ?i0 ?iO ?is
      case i0 => exact xAr rfl rfl rfl
      case iO => exact ⟨Nat.zero_le _, fun j hj => absurd hj (Nat.not_lt_zero j)⟩
      case is =>
        clear hR
        intro k tm w hk ht hR K2 hK2
        obtain ⟨hk, hne⟩ := hk
        replace hne := Held.mk hne
        have k0 : 0 ≤ (k : Int) := by omega
        by_cases hki : k = i
        · subst hki
          have t1 : ¬ (k : Int) < (k : Int) := by omega
          have hnext : ∀ m, m < k + 1 → ∀ j, j < m → f j ≠ f m := fun m hm j hj => by
            by_cases hmk : m = k
            · rw [hmk, hxe.out]; exact hne.out j (by omega)
            · exact hno.out m (by omega) j hj
          replace hnext := Held.mk hnext
          clear hK2 hk hi hA hs' hno hne hx hxe lf ld
          repeat (first | (obtain ⟨x, tm', e, ht'⟩ := xAg ht; clear ht; subst e; have ht := ht'; clear ht') | (obtain ⟨tm', e, ht'⟩ := xAd ht; clear ht; subst e; have ht := ht'; clear ht'))
          obtain rfl := xAn ht
          clear ht
          go_wp2_with (first | (refine' xAb hR rfl rfl rfl ?_; clear hR; intro blk w hR) | (refine' xAa hR rfl rfl inferInstance ?_; clear hR; intro blk w hR) | (refine' aNq hR rfl rfl rfl ?_) | (refine' aOq hR rfl rfl rfl ?_) | (refine' aDq hR rfl rfl rfl rfl ?_; clear hR; intro w hR) | fail)
          exact hK.out (k + 1) _ _ ⟨hi1.out, hnext.out⟩ hmu.out (xAr rfl rfl rfl) hR
        · have hkl : k < i := by omega
          have k1 : (k : Int) < (i : Int) := by omega
          have k2 : (k : Int) < (n : Int) := by omega
          have lk := hA.out.lt k (by omega)
          have ldk := fun (b3 : Nat) (w : World) (hw : Rep B0 w0 ((b3, .cells (gl p q g h).toArray 26) :: L) w) => xBr (hx.out w hw.drop1 k (by omega))
          obtain ⟨yv, hye⟩ : ∃ z, f k = z := ⟨_, rfl⟩
          rw [hye] at ldk lk
          by_cases hxy : xv = yv
          · have es : eqN xv yv = true := eqN_yes hxy
            obtain rfl : s = false := by
              cases s
              · rfl
              · exact absurd (by rw [hye, hxe.out, hxy]) (hs'.out.1 rfl i hin k hkl)
            clear hK hK2 hi hk hA hs' hno hne hx hxe lf lk hye hxy hki
            repeat (first | (obtain ⟨x, tm', e, ht'⟩ := xAg ht; clear ht; subst e; have ht := ht'; clear ht') | (obtain ⟨tm', e, ht'⟩ := xAd ht; clear ht; subst e; have ht := ht'; clear ht'))
            obtain rfl := xAn ht
            clear ht
            go_wp2_with (first | (refine' xAb hR rfl rfl rfl ?_; clear hR; intro blk w hR) | (refine' xAa hR rfl rfl inferInstance ?_; clear hR; intro blk w hR) | (refine' aNq hR rfl rfl rfl ?_) | (refine' aOq hR rfl rfl rfl ?_) | (refine' aDq hR rfl rfl rfl rfl ?_; clear hR; intro w hR) | fail)
            refine xAi hR [0, 0, 0, 0, 0, 0, 0, 0, 0] [] xBt (by kernel_rfl) rfl rfl (fun K hK => ?_)
            clear hR
            repeat ((first | (refine xBa ?_) | (refine' xAm (by decide) rfl (.inl rfl) rfl ?ha ?_) | (refine' xAm (by decide) rfl (.inr rfl) rfl ?ha ?_) | (refine' aQq rfl rfl rfl ?ha ?_) | (refine' aRq rfl rfl rfl ?ha ?_) | (refine' aSq rfl rfl rfl ?ha ?_) | (refine' aTq rfl rfl rfl ?ha ?_) | (refine' aUq rfl rfl rfl ?ha ?_) | ((first | refine' xAf (by decide) rfl rfl rfl rfl (fun w => ?hq) ?ha ?_ | refine' xAv (by decide) rfl rfl rfl rfl (fun w => ?hq) ?ha ?_ | refine' xAj (by decide) rfl rfl rfl (fun w => ?hq) ?ha ?_ | refine' xAe (by decide) rfl rfl rfl (fun w => ?hq) ?ha ?_ | refine' xAk (by decide) rfl rfl rfl (fun w => ?hq) ?ha ?_ | refine' xAu (by decide) rfl rfl rfl rfl (fun w => ?hq) ?ha ?_ | refine' xAt (by decide) rfl rfl rfl rfl rfl rfl (fun w => ?hq) ?ha ?_ | refine' xAs (by decide) rfl rfl (fun w => ?hq) ?ha ?_ | refine' xAl (by decide) rfl rfl rfl (fun w => ?hq) ?ha ?_ | refine' xAw (by decide) rfl rfl rfl (fun w => ?hq) ?ha ?_); (case hq => go_simp; try rfl)) | (refine' xAh (by decide) rfl rfl rfl ?ha ?_) | (refine' xBb (by decide) rfl rfl rfl rfl ?ha ?_) | (refine' xAz (by decide) rfl ?ha ?_) | (refine' xBn rfl rfl rfl (ld _) ?ha ?_; (case ha => simp only [kP, kQ, kA, kB]; try rfl)) | (refine' xBn rfl rfl rfl (ldk _) ?ha ?_; (case ha => simp only [kP, kQ, kA, kB]; try rfl))); try (case ha => simp only [kP, kQ, kA, kB]; try rfl))
            refine xBg (hK _ _ ?_)
            clear hK K
            refine xBj (fun Q hQ => ?_)
            try simp only [List.nil_append, List.cons_append]
            repeat ((first | refine' xAq rfl (.inl rfl) rfl ?hk ?ha ?_ | refine' xAq rfl (.inr rfl) rfl ?hk ?ha ?_ | (refine' aKq rfl rfl rfl rfl rfl rfl ?hk ?ha ?_) | (refine' aLq rfl rfl rfl rfl rfl ?hk ?ha ?_) | (refine' aMq rfl rfl rfl rfl rfl ?hk ?ha ?_) | (refine' xBe rfl (fun w => ?hq) ?hk ?ha ?_; (case hq => go_simp; try rfl))); (case hk => intro p hp; first | exact absurd hp List.not_mem_nil | (obtain rfl := List.mem_singleton.1 hp; repeat (first | exact List.Mem.head _ | with_reducible assumption | apply mC))); (case ha => simp only [kP, kQ, kA, kB]; try rfl))
            refine xBi (fun w hR => hQ _ _ ?_)
            clear hQ Q
            go_wp2_with (first | (refine' xAb hR rfl rfl rfl ?_; clear hR; intro blk w hR) | (refine' xAa hR rfl rfl inferInstance ?_; clear hR; intro blk w hR) | (refine' aNq hR rfl rfl rfl ?_) | (refine' aOq hR rfl rfl rfl ?_) | (refine' aDq hR rfl rfl rfl rfl ?_; clear hR; intro w hR) | fail)
            go_ret
            exact ⟨rfl, hR.drop1⟩
          · have es : eqN xv yv = false := eqN_no lf.out lk hxy
            have hnext : ∀ j, j < k + 1 → f j ≠ xv := fun j hj => by
              by_cases hjk : j = k
              · rw [hjk, hye]; exact fun hh => hxy hh.symm
              · exact hne.out j (by omega)
            have ek : IntKind.i64.wrap ((k : Int) + 1) = ((k + 1 : Nat) : Int) := by rw [IntKind.wrap_i64]; omega
            have hk1 : k + 1 ≤ i := by omega
            have hmk : i - (k + 1) < i - k := by omega
            replace hk1 := Held.mk hk1
            replace hmk := Held.mk hmk
            replace hnext := Held.mk hnext
            clear hK hi hk hA hs' hno hne hx hxe lf lk hye hxy hki ei
            repeat (first | (obtain ⟨x, tm', e, ht'⟩ := xAg ht; clear ht; subst e; have ht := ht'; clear ht') | (obtain ⟨tm', e, ht'⟩ := xAd ht; clear ht; subst e; have ht := ht'; clear ht'))
            obtain rfl := xAn ht
            clear ht
            go_wp2_with (first | (refine' xAb hR rfl rfl rfl ?_; clear hR; intro blk w hR) | (refine' xAa hR rfl rfl inferInstance ?_; clear hR; intro blk w hR) | (refine' aNq hR rfl rfl rfl ?_) | (refine' aOq hR rfl rfl rfl ?_) | (refine' aDq hR rfl rfl rfl rfl ?_; clear hR; intro w hR) | fail)
            refine xAi hR [0, 0, 0, 0, 0, 0, 0, 0, 0] [] xBt (by kernel_rfl) rfl rfl (fun K hK => ?_)
            clear hR
            repeat ((first | (refine xBa ?_) | (refine' xAm (by decide) rfl (.inl rfl) rfl ?ha ?_) | (refine' xAm (by decide) rfl (.inr rfl) rfl ?ha ?_) | (refine' aQq rfl rfl rfl ?ha ?_) | (refine' aRq rfl rfl rfl ?ha ?_) | (refine' aSq rfl rfl rfl ?ha ?_) | (refine' aTq rfl rfl rfl ?ha ?_) | (refine' aUq rfl rfl rfl ?ha ?_) | ((first | refine' xAf (by decide) rfl rfl rfl rfl (fun w => ?hq) ?ha ?_ | refine' xAv (by decide) rfl rfl rfl rfl (fun w => ?hq) ?ha ?_ | refine' xAj (by decide) rfl rfl rfl (fun w => ?hq) ?ha ?_ | refine' xAe (by decide) rfl rfl rfl (fun w => ?hq) ?ha ?_ | refine' xAk (by decide) rfl rfl rfl (fun w => ?hq) ?ha ?_ | refine' xAu (by decide) rfl rfl rfl rfl (fun w => ?hq) ?ha ?_ | refine' xAt (by decide) rfl rfl rfl rfl rfl rfl (fun w => ?hq) ?ha ?_ | refine' xAs (by decide) rfl rfl (fun w => ?hq) ?ha ?_ | refine' xAl (by decide) rfl rfl rfl (fun w => ?hq) ?ha ?_ | refine' xAw (by decide) rfl rfl rfl (fun w => ?hq) ?ha ?_); (case hq => go_simp; try rfl)) | (refine' xAh (by decide) rfl rfl rfl ?ha ?_) | (refine' xBb (by decide) rfl rfl rfl rfl ?ha ?_) | (refine' xAz (by decide) rfl ?ha ?_) | (refine' xBn rfl rfl rfl (ld _) ?ha ?_; (case ha => simp only [kP, kQ, kA, kB]; try rfl)) | (refine' xBn rfl rfl rfl (ldk _) ?ha ?_; (case ha => simp only [kP, kQ, kA, kB]; try rfl))); try (case ha => simp only [kP, kQ, kA, kB]; try rfl))
            refine xBg (hK _ _ ?_)
            clear hK K
            refine xBj (fun Q hQ => ?_)
            try simp only [List.nil_append, List.cons_append]
            repeat ((first | refine' xAq rfl (.inl rfl) rfl ?hk ?ha ?_ | refine' xAq rfl (.inr rfl) rfl ?hk ?ha ?_ | (refine' aKq rfl rfl rfl rfl rfl rfl ?hk ?ha ?_) | (refine' aLq rfl rfl rfl rfl rfl ?hk ?ha ?_) | (refine' aMq rfl rfl rfl rfl rfl ?hk ?ha ?_) | (refine' xBe rfl (fun w => ?hq) ?hk ?ha ?_; (case hq => go_simp; try rfl))); (case hk => intro p hp; first | exact absurd hp List.not_mem_nil | (obtain rfl := List.mem_singleton.1 hp; repeat (first | exact List.Mem.head _ | with_reducible assumption | apply mC))); (case ha => simp only [kP, kQ, kA, kB]; try rfl))
            refine xBi (fun w hR => hQ _ _ ?_)
            clear hQ Q
            go_wp2_with (first | (refine' xAb hR rfl rfl rfl ?_; clear hR; intro blk w hR) | (refine' xAa hR rfl rfl inferInstance ?_; clear hR; intro blk w hR) | (refine' aNq hR rfl rfl rfl ?_) | (refine' aOq hR rfl rfl rfl ?_) | (refine' aDq hR rfl rfl rfl rfl ?_; clear hR; intro w hR) | fail)
            exact hK2.out (k + 1) _ _ ⟨hk1.out, hnext.out⟩ hmk.out (xAr rfl rfl rfl) hR
end
end Go.Proofs.YtaaahfjpnggkbaaGreatDoor
