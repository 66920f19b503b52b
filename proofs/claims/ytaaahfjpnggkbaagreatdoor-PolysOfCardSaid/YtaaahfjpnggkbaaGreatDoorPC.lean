/- The contract of balefirelaw01.TwinReason. -/
import Derived.Test.YtaaahfjpnggkbaaGreatDoorPR
import Derived.Deep.Cut
import Derived.Test.YtaaahfjpnggkbaaGreatDoorPB
import Derived.Test.YtaaahfjpnggkbaaGreatDoorPJ
set_option linter.unusedVariables false
set_option linter.unusedSimpArgs false
namespace Go.Proofs.YtaaahfjpnggkbaaGreatDoor
open Go.RowKit
attribute [local irreducible] Calls Instr.build Instr.buildSlice
end Go.Proofs.YtaaahfjpnggkbaaGreatDoor
namespace Go.Proofs.YtaaahfjpnggkbaaGreatDoor
open Go.RowKit
attribute [local irreducible] Calls Instr.build Instr.buildSlice
theorem xCa.ofMem {b : Nat} {o : Obj} : ∀ {L : List (Nat × Obj)}, (b, o) ∈ L → xCa L b o o L
  | [], h => nomatch h
  | p :: L, h => by
    rcases List.mem_cons.1 h with rfl | h
    · exact .inl ⟨rfl, rfl⟩
    · exact .inr ⟨L, xCa.ofMem h, rfl⟩
theorem keepE_zero (e : Int) : keepE e 0 = e := by
  unfold keepE
  split
  · rename_i h; exact h.symm
  · rfl
section
variable {p q g h : Nat} {fb : Nat} {e : Int} {B0 : Nat} {w0 w : World} {L L' : List (Nat × Obj)} {a : Option Addr} {n cp : Nat} {f : Nat → Nat}
theorem fplus_ok {x y r : Nat} (h1 : 1 < q) (hq : q < B) (hx : x < q) (hy : y < q) (hr : (x + y) % q = r) (hm : (fb, Obj.cells (pfl p q g h e).toArray 79) ∈ L) (hR : Rep B0 w0 L w) : Calls Tryz.prog 33 #[.pointer (some ⟨fb, 0, none⟩), num x, num y] w fun en w' => en = .returned (num r) ∧ Rep B0 w0 L w' :=
  fplus_any (Nat.lt_trans hx hq) (Nat.lt_trans hy hq) hq (by rw [if_pos ⟨h1, hx, hy⟩]; exact hr) (if_pos ⟨h1, hx, hy⟩) (keepE_zero e) (xCa.ofMem hm) hR
theorem fless_ok {x y r : Nat} (h1 : 1 < q) (hq : q < B) (hx : x < q) (hy : y < q) (hr : subN x y q = r) (hm : (fb, Obj.cells (pfl p q g h e).toArray 79) ∈ L) (hR : Rep B0 w0 L w) : Calls Tryz.prog 128 #[.pointer (some ⟨fb, 0, none⟩), num x, num y] w fun en w' => en = .returned (num r) ∧ Rep B0 w0 L w' :=
  fless_any (Nat.lt_trans hx hq) (Nat.lt_trans hy hq) hq (by rw [if_pos ⟨h1, hx, hy⟩]; exact hr) (if_pos ⟨h1, hx, hy⟩) (keepE_zero e) (xCa.ofMem hm) hR
theorem ftimes_ok {x y r : Nat} (h1 : 1 < q) (hq : q < B) (hx : x < q) (hy : y < q) (hr : mulN x y q = r) (hm : (fb, Obj.cells (pfl p q g h e).toArray 79) ∈ L) (hR : Rep B0 w0 L w) : Calls Tryz.prog 34 #[.pointer (some ⟨fb, 0, none⟩), num x, num y] w fun en w' => en = .returned (num r) ∧ Rep B0 w0 L w' :=
  ftimes_any (Nat.lt_trans hx hq) (Nat.lt_trans hy hq) hq (by rw [if_pos ⟨h1, hx, hy⟩]; exact hr) (if_pos ⟨h1, hx, hy⟩) (keepE_zero e) (xCa.ofMem hm) hR
def ptsOK (q n : Nat) (f : Nat → Nat) : Prop := 0 < n ∧ (∀ i, i < n → ∀ j, j < i → f j ≠ f i) ∧ 1 < q ∧ ∀ j, j < n → f j < q
set_option maxRecDepth 100000 in
set_option maxHeartbeats 4000000 in
theorem points_any (hq : q < B) (hA : NAt B0 w0 L a n cp f) (hn : n ≤ 1000000) (s : Bool) (hs : s = true ↔ ptsOK q n f) (hR : Rep B0 w0 L w) :
    Calls Tryz.prog 35 #[grp p q g h, .slice a n cp] w fun en w' => en = .returned (.bool s) ∧ Rep B0 w0 L w' := by
  classical
  have hs0 := hs
  replace hA := Held.mk hA
  replace hs := Held.mk hs
  clear hs0
  go_enter Tryz.func35, Tryz.ntmps35
  go_wp2_with (first | (refine' xAb hR rfl rfl rfl ?_; clear hR; intro blk w hR) | (refine' xAa hR rfl rfl inferInstance ?_; clear hR; intro blk w hR) | (refine' aNq hR rfl rfl rfl ?_) | (refine' aOq hR rfl rfl rfl ?_) | (refine' aPq hR rfl rfl rfl ?_) | (refine' aWq hR rfl rfl rfl rfl ?_; clear hR; intro w hR) | (refine' aXq hR rfl rfl rfl rfl rfl ?_; clear hR; intro w hR) | fail)
  try simp only [Act.put, kA, kB, List.setIfInBounds_toArray]
  refine' xCh hR (false :: false :: false :: false :: false :: true :: true :: false :: false :: false :: true :: true :: true :: true :: true :: true :: true :: true :: true :: true :: false :: false :: false :: false :: false :: false :: false :: false :: []) (fun (i : Nat) l => l.set 9 (.int .i64 (i : Int))) (fun i => n - i) (fun i => i ≤ n ∧ ∀ k, k < i → ∀ j, j < k → f j ≠ f k) 0 ?h0 ?hO ?hs
  case h0 => exact xAr rfl rfl rfl
  case hO => exact ⟨Nat.zero_le _, fun j hj => absurd hj (Nat.not_lt_zero j)⟩
  case hs =>
    clear hR
    intro i tm w hi ht hR K hK
    obtain ⟨hi, hno⟩ := hi
    replace hno := Held.mk hno
    have g0 : 0 ≤ (i : Int) := by omega
    by_cases hik : i = n
    · subst hik
      have t1 : ¬ (i : Int) < (i : Int) := by omega
      by_cases h0 : i = 0
      · have h0' : ¬ (0 : Int) < (i : Int) := by omega
        have h0'' : decide ((0 : Int) < (i : Int)) = false := decide_eq_false h0'
        obtain rfl : s = false := by
          cases s
          · rfl
          · have := (hs.out.1 rfl).1; omega
        clear hK hi hA hno hs h0
        repeat (first | (obtain ⟨x, tm', e, ht'⟩ := xAg ht; clear ht; subst e; have ht := ht'; clear ht') | (obtain ⟨tm', e, ht'⟩ := xAd ht; clear ht; subst e; have ht := ht'; clear ht'))
        obtain rfl := xAn ht
        clear ht
        go_wp2_with (first | go_skip | (refine' xAb hR rfl rfl rfl ?_; clear hR; intro blk w hR) | (refine' xAa hR rfl rfl inferInstance ?_; clear hR; intro blk w hR) | (refine' aNq hR rfl rfl rfl ?_) | (refine' aOq hR rfl rfl rfl ?_) | (refine' aPq hR rfl rfl rfl ?_) | (refine' aWq hR rfl rfl rfl rfl ?_; clear hR; intro w hR) | (refine' aXq hR rfl rfl rfl rfl rfl ?_; clear hR; intro w hR) | (refine' xAp hR rfl rfl rfl inferInstance ?hm ?hn ?_; (case hm => first | with_reducible assumption | repeat (first | exact .head _ | with_reducible assumption | apply mC)); (case hn => first | rfl | simp)) | (refine' xAo hR rfl rfl rfl inferInstance ?hm ?hv ?_; (case hm => first | with_reducible assumption | repeat (first | exact .head _ | with_reducible assumption | apply mC)); (case hv => first | rfl | with_reducible assumption)) | (refine' xAx hR rfl rfl rfl inferInstance ?hm ?hv ?hn ?_; (case hm => first | with_reducible assumption | repeat (first | exact .head _ | with_reducible assumption | apply mC)); (case hv => first | with_reducible assumption | (simp only [kC, kD, kE, kF]; try rfl)); (case hn => first | rfl | simp)) | fail)
        go_ret
        exact ⟨rfl, hR.drop1⟩
      · have h0' : (0 : Int) < (i : Int) := by omega
        have h0'' : decide ((0 : Int) < (i : Int)) = true := decide_eq_true h0'
        have h0n : 0 < i := by omega
        have h0d : decide (0 < i) = true := decide_eq_true h0n
        have cm := fun (L' : List (Nat × Obj)) (hL : ∀ w, Rep B0 w0 L' w → Rep B0 w0 L w) (w : World) (hw : Rep B0 w0 L' w) => pmay_any (p := p) (g := g) (h := h) hq (hA.out.mono hL) hn s (hs.out.trans ⟨fun hh => hh.2.2, fun hh => ⟨by omega, hno.out, hh⟩⟩) hw
        clear hK hi hA hno hs h0
        repeat (first | (obtain ⟨x, tm', e, ht'⟩ := xAg ht; clear ht; subst e; have ht := ht'; clear ht') | (obtain ⟨tm', e, ht'⟩ := xAd ht; clear ht; subst e; have ht := ht'; clear ht'))
        obtain rfl := xAn ht
        clear ht
        go_wp2_with (first | go_skip | (refine' xAb hR rfl rfl rfl ?_; clear hR; intro blk w hR) | (refine' xAa hR rfl rfl inferInstance ?_; clear hR; intro blk w hR) | (refine' aNq hR rfl rfl rfl ?_) | (refine' aOq hR rfl rfl rfl ?_) | (refine' aPq hR rfl rfl rfl ?_) | (refine' aWq hR rfl rfl rfl rfl ?_; clear hR; intro w hR) | (refine' aXq hR rfl rfl rfl rfl rfl ?_; clear hR; intro w hR) | (refine' xAp hR rfl rfl rfl inferInstance ?hm ?hn ?_; (case hm => first | with_reducible assumption | repeat (first | exact .head _ | with_reducible assumption | apply mC)); (case hn => first | rfl | simp)) | (refine' xAo hR rfl rfl rfl inferInstance ?hm ?hv ?_; (case hm => first | with_reducible assumption | repeat (first | exact .head _ | with_reducible assumption | apply mC)); (case hv => first | rfl | with_reducible assumption)) | (refine' xAx hR rfl rfl rfl inferInstance ?hm ?hv ?hn ?_; (case hm => first | with_reducible assumption | repeat (first | exact .head _ | with_reducible assumption | apply mC)); (case hv => first | with_reducible assumption | (simp only [kC, kD, kE, kF]; try rfl)); (case hn => first | rfl | simp)) | (go_at_call 31; refine (cm _ (fun w hw => hw.drop1) _ hR).mono ?_; clear hR; rintro e w ⟨rfl, hR⟩))
        go_ret
        exact ⟨rfl, hR.drop1⟩
    · have hin : i < n := by omega
      have g1 : (i : Int) < (n : Int) := by omega
      obtain ⟨bb, off, rfl, hx⟩ := hA.out.at' (by omega)
      obtain ⟨cl, hL⟩ := cutL_run hA.out (by omega : i ≤ n) (by omega)
      have lf := hA.out.lt i hin
      have ld := fun (w : World) (hw : Rep B0 w0 L w) => xBr (hx w hw i hin)
      obtain ⟨x, hxe⟩ : ∃ x, f i = x := ⟨_, rfl⟩
      rw [hxe] at ld lf
      have ldw := ld w hR.drop1
      obtain ⟨b, hb⟩ : ∃ b : Bool, b = true ↔ ∃ j, j < i ∧ f j = x := ⟨decide (∃ j, j < i ∧ f j = x), decide_eq_true_iff⟩
      have cc := fun (L' : List (Nat × Obj)) (h' : ∀ w, Rep B0 w0 L' w → Rep B0 w0 L w) (w : World) (hw : Rep B0 w0 L' w) => pcontains_any lf (hL.mono h') (by omega) b hb hw
      cases b with
      | true =>
        obtain rfl : s = false := by
          cases s
          · rfl
          · obtain ⟨j, hj, hf⟩ := hb.1 rfl
            exact absurd (hf.trans hxe.symm) ((hs.out.1 rfl).2.1 i hin j hj)
        clear hK hi hA hik hin hx hxe hno lf hb hL hs ld
        repeat (first | (obtain ⟨x, tm', e, ht'⟩ := xAg ht; clear ht; subst e; have ht := ht'; clear ht') | (obtain ⟨tm', e, ht'⟩ := xAd ht; clear ht; subst e; have ht := ht'; clear ht'))
        obtain rfl := xAn ht
        clear ht
        go_wp2_with (first | (refine' xAb hR rfl rfl rfl ?_; clear hR; intro blk w hR) | (refine' xAa hR rfl rfl inferInstance ?_; clear hR; intro blk w hR) | (refine' aNq hR rfl rfl rfl ?_) | (refine' aOq hR rfl rfl rfl ?_) | (refine' aPq hR rfl rfl rfl ?_) | (refine' aWq hR rfl rfl rfl rfl ?_; clear hR; intro w hR) | (refine' aXq hR rfl rfl rfl rfl rfl ?_; clear hR; intro w hR) | (refine' xCf rfl rfl rfl ldw ?_))
        refine xAi hR [0, 0, 0, 0, 0] [] xBt (by kernel_rfl) rfl rfl (fun K hK => ?_)
        clear hR
        repeat ((first | (refine' xAt (by decide) rfl rfl rfl rfl rfl rfl cl ?ha ?_) | (refine xBa ?_) | (refine' xAm (by decide) rfl (.inl rfl) rfl ?ha ?_) | (refine' xAm (by decide) rfl (.inr rfl) rfl ?ha ?_) | (refine' aQq rfl rfl rfl ?ha ?_) | (refine' aRq rfl rfl rfl ?ha ?_) | (refine' aSq rfl rfl rfl ?ha ?_) | (refine' aTq rfl rfl rfl ?ha ?_) | (refine' aUq rfl rfl rfl ?ha ?_) | ((first | refine' xAf (by decide) rfl rfl rfl rfl (fun w => ?hq) ?ha ?_ | refine' xAv (by decide) rfl rfl rfl rfl (fun w => ?hq) ?ha ?_ | refine' xAj (by decide) rfl rfl rfl (fun w => ?hq) ?ha ?_ | refine' xAe (by decide) rfl rfl rfl (fun w => ?hq) ?ha ?_ | refine' xAk (by decide) rfl rfl rfl (fun w => ?hq) ?ha ?_ | refine' xAu (by decide) rfl rfl rfl rfl (fun w => ?hq) ?ha ?_ | refine' xAt (by decide) rfl rfl rfl rfl rfl rfl (fun w => ?hq) ?ha ?_ | refine' xAs (by decide) rfl rfl (fun w => ?hq) ?ha ?_ | refine' xAl (by decide) rfl rfl rfl (fun w => ?hq) ?ha ?_ | refine' xAw (by decide) rfl rfl rfl (fun w => ?hq) ?ha ?_); (case hq => go_simp; try rfl)) | (refine' xAh (by decide) rfl rfl rfl ?ha ?_) | (refine' xBb (by decide) rfl rfl rfl rfl ?ha ?_) | (refine' xAz (by decide) rfl ?ha ?_) | (refine' hd_callR rfl rfl rfl (xBc Tryz.func126 (by kernel_rfl) (by kernel_rfl) _) (fun w hw => cc _ (fun w hw => hw.drop1.drop1) w hw) ?ha ?_)); try (case ha => simp only [kP, kQ, kA, kB]; try rfl))
        refine xBg (hK _ _ ?_)
        clear hK K
        refine xBj (fun Q hQ => ?_)
        try simp only [List.nil_append, List.cons_append]
        repeat ((first | refine' xAq rfl (.inl rfl) rfl ?hk ?ha ?_ | refine' xAq rfl (.inr rfl) rfl ?hk ?ha ?_ | (refine' aYq rfl rfl rfl rfl rfl rfl ?hk ?ha ?_) | (refine' aZq rfl rfl rfl rfl rfl ?hk ?ha ?_) | (refine' aAr rfl rfl rfl rfl rfl ?hk ?ha ?_) | (refine' xBe rfl (fun w => ?hq) ?hk ?ha ?_; (case hq => go_simp; try rfl))); (case hk => intro p hp; first | exact absurd hp List.not_mem_nil | (obtain rfl := List.mem_singleton.1 hp; repeat (first | exact List.Mem.head _ | with_reducible assumption | apply mC))); (case ha => simp only [kP, kQ, kA, kB]; try rfl))
        refine xBi (fun w hR => hQ _ _ ?_)
        clear hQ Q
        go_wp2_with (first | (refine' xAb hR rfl rfl rfl ?_; clear hR; intro blk w hR) | (refine' xAa hR rfl rfl inferInstance ?_; clear hR; intro blk w hR) | (refine' aNq hR rfl rfl rfl ?_) | (refine' aOq hR rfl rfl rfl ?_) | (refine' aPq hR rfl rfl rfl ?_) | (refine' aWq hR rfl rfl rfl rfl ?_; clear hR; intro w hR) | (refine' aXq hR rfl rfl rfl rfl rfl ?_; clear hR; intro w hR) | fail)
        go_ret
        exact ⟨rfl, hR.drop1.drop1⟩
      | false =>
        have hnext : ∀ k, k < i + 1 → ∀ j, j < k → f j ≠ f k := fun k hk j hj hf => by
          by_cases hki : k = i
          · subst hki
            have := hb.2 ⟨j, hj, by rw [hf, hxe]⟩
            cases this
          · exact hno.out k (by omega) j hj hf
        have ei : IntKind.i64.wrap ((i : Int) + 1) = ((i + 1 : Nat) : Int) := by rw [IntKind.wrap_i64]; omega
        have hi1 : i + 1 ≤ n := by omega
        have hmu : n - (i + 1) < n - i := by omega
        replace hi1 := Held.mk hi1
        replace hmu := Held.mk hmu
        replace hnext := Held.mk hnext
        clear hi hA hik hin hx hxe hno lf hb hL hs ld
        repeat (first | (obtain ⟨x, tm', e, ht'⟩ := xAg ht; clear ht; subst e; have ht := ht'; clear ht') | (obtain ⟨tm', e, ht'⟩ := xAd ht; clear ht; subst e; have ht := ht'; clear ht'))
        obtain rfl := xAn ht
        clear ht
        go_wp2_with (first | (refine' xAb hR rfl rfl rfl ?_; clear hR; intro blk w hR) | (refine' xAa hR rfl rfl inferInstance ?_; clear hR; intro blk w hR) | (refine' aNq hR rfl rfl rfl ?_) | (refine' aOq hR rfl rfl rfl ?_) | (refine' aPq hR rfl rfl rfl ?_) | (refine' aWq hR rfl rfl rfl rfl ?_; clear hR; intro w hR) | (refine' aXq hR rfl rfl rfl rfl rfl ?_; clear hR; intro w hR) | (refine' xCf rfl rfl rfl ldw ?_))
        refine xAi hR [0, 0, 0, 0, 0] [] xBt (by kernel_rfl) rfl rfl (fun K hK => ?_)
        clear hR
        repeat ((first | (refine' xAt (by decide) rfl rfl rfl rfl rfl rfl cl ?ha ?_) | (refine xBa ?_) | (refine' xAm (by decide) rfl (.inl rfl) rfl ?ha ?_) | (refine' xAm (by decide) rfl (.inr rfl) rfl ?ha ?_) | (refine' aQq rfl rfl rfl ?ha ?_) | (refine' aRq rfl rfl rfl ?ha ?_) | (refine' aSq rfl rfl rfl ?ha ?_) | (refine' aTq rfl rfl rfl ?ha ?_) | (refine' aUq rfl rfl rfl ?ha ?_) | ((first | refine' xAf (by decide) rfl rfl rfl rfl (fun w => ?hq) ?ha ?_ | refine' xAv (by decide) rfl rfl rfl rfl (fun w => ?hq) ?ha ?_ | refine' xAj (by decide) rfl rfl rfl (fun w => ?hq) ?ha ?_ | refine' xAe (by decide) rfl rfl rfl (fun w => ?hq) ?ha ?_ | refine' xAk (by decide) rfl rfl rfl (fun w => ?hq) ?ha ?_ | refine' xAu (by decide) rfl rfl rfl rfl (fun w => ?hq) ?ha ?_ | refine' xAt (by decide) rfl rfl rfl rfl rfl rfl (fun w => ?hq) ?ha ?_ | refine' xAs (by decide) rfl rfl (fun w => ?hq) ?ha ?_ | refine' xAl (by decide) rfl rfl rfl (fun w => ?hq) ?ha ?_ | refine' xAw (by decide) rfl rfl rfl (fun w => ?hq) ?ha ?_); (case hq => go_simp; try rfl)) | (refine' xAh (by decide) rfl rfl rfl ?ha ?_) | (refine' xBb (by decide) rfl rfl rfl rfl ?ha ?_) | (refine' xAz (by decide) rfl ?ha ?_) | (refine' hd_callR rfl rfl rfl (xBc Tryz.func126 (by kernel_rfl) (by kernel_rfl) _) (fun w hw => cc _ (fun w hw => hw.drop1.drop1) w hw) ?ha ?_)); try (case ha => simp only [kP, kQ, kA, kB]; try rfl))
        refine xBg (hK _ _ ?_)
        clear hK K
        refine xBj (fun Q hQ => ?_)
        try simp only [List.nil_append, List.cons_append]
        repeat ((first | refine' xAq rfl (.inl rfl) rfl ?hk ?ha ?_ | refine' xAq rfl (.inr rfl) rfl ?hk ?ha ?_ | (refine' aYq rfl rfl rfl rfl rfl rfl ?hk ?ha ?_) | (refine' aZq rfl rfl rfl rfl rfl ?hk ?ha ?_) | (refine' aAr rfl rfl rfl rfl rfl ?hk ?ha ?_) | (refine' xBe rfl (fun w => ?hq) ?hk ?ha ?_; (case hq => go_simp; try rfl))); (case hk => intro p hp; first | exact absurd hp List.not_mem_nil | (obtain rfl := List.mem_singleton.1 hp; repeat (first | exact List.Mem.head _ | with_reducible assumption | apply mC))); (case ha => simp only [kP, kQ, kA, kB]; try rfl))
        refine xBi (fun w hR => hQ _ _ ?_)
        clear hQ Q
        go_wp2_with (first | (refine' xAb hR rfl rfl rfl ?_; clear hR; intro blk w hR) | (refine' xAa hR rfl rfl inferInstance ?_; clear hR; intro blk w hR) | (refine' aNq hR rfl rfl rfl ?_) | (refine' aOq hR rfl rfl rfl ?_) | (refine' aPq hR rfl rfl rfl ?_) | (refine' aWq hR rfl rfl rfl rfl ?_; clear hR; intro w hR) | (refine' aXq hR rfl rfl rfl rfl rfl ?_; clear hR; intro w hR) | fail)
        exact hK.out (i + 1) _ _ ⟨hi1.out, hnext.out⟩ hmu.out (xAr rfl rfl rfl) hR.drop1
end
end Go.Proofs.YtaaahfjpnggkbaaGreatDoor
