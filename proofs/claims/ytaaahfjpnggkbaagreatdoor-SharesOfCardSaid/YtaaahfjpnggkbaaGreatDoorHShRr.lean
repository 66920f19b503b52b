import Derived.Test.YtaaahfjpnggkbaaGreatDoorHShUni
import Derived.Test.YtaaahfjpnggkbaaGreatDoorHSR
set_option linter.unusedSimpArgs false
set_option linter.unusedVariables false
set_option maxRecDepth 100000
set_option maxHeartbeats 20000000
namespace Go.Proofs.YtaaahfjpnggkbaaGreatDoor
open Go.RowKit
attribute [local irreducible] Calls Instr.build Instr.buildSlice Instr.makeSlice
theorem perm_far {α : Type} (x y : α) (Z l T : List α) : (x :: y :: (Z ++ (l ++ T))).Perm (l ++ (x :: y :: (Z ++ T))) := by
 have e1 : (Z ++ (l ++ T)).Perm (l ++ (Z ++ T)) := by
  rw [← List.append_assoc, ← List.append_assoc]
  exact List.perm_append_comm.append_right T
 exact ((e1.cons y).cons x).trans (perm_two x y l (Z ++ T))
theorem neg_facts {s : Nat} (hs : s ≤ 1000) : ∃ ys : Int, -(s : Int) - 1 = ys ∧ IntKind.i64.wrap (-((s : Int) + 1)) = ys ∧ IntKind.i64.wrap (-(s : Int) - 1) = ys ∧ IntKind.i64.wrap (-1 + -(s : Int)) = ys ∧ IntKind.i64.wrap (-(s : Int) + -1) = ys ∧ IntKind.i64.wrap (-1 - (s : Int)) = ys ∧ -9223372036854775808 ≤ ys ∧ ys < 9223372036854775808 :=
 ⟨_, rfl, by rw [IntKind.wrap_i64]; omega, by rw [IntKind.wrap_i64]; omega, by rw [IntKind.wrap_i64]; omega, by rw [IntKind.wrap_i64]; omega, by rw [IntKind.wrap_i64]; omega, by omega, by omega⟩
theorem step_facts {s k : Nat} (h : s < k) (hk : k ≤ 1000) : IntKind.i64.wrap ((s : Int) + 1) = (s : Int) + 1 ∧ IntKind.i64.wrap ((s : Int) + 1 + 1) = (s : Int) + 1 + 1 ∧ ((s + 1 : Nat) : Int) = (s : Int) + 1 ∧ s ≤ 1000000 ∧ s + 1 ≤ k ∧ k - (s + 1) < k - s ∧ (s : Int) + 1 ≤ (k : Int) ∧ (s : Int) < (k : Int) ∧ 0 ≤ (s : Int) :=
 ⟨by rw [IntKind.wrap_i64]; omega, by rw [IntKind.wrap_i64]; omega, by omega, by omega, by omega, by omega, by omega, by omega, by omega⟩
section
variable {p q g h : Nat} {B0 : Nat} {w0 w : World} {L : List (Nat × Obj)} {n m ca cq : Nat} {aa pa : Option Addr} {A : Nat → Int} {Pw : Nat → Nat}
theorem rraise_bad (hn : n ≤ 1000) (hm : m ≤ 1000) {k : Int} (hbad : raBad n m k) (hR : Rep B0 w0 L w) :
  Calls Tryz.prog 28 #[grp p q g h, .slice aa n ca, .slice pa m cq, .int .i64 k] w fun e w' => e = .returned (.tuple #[.slice none 0 0, .int .i64 1]) ∧ Rep B0 w0 L w' := by
 by_cases k1 : k < 1
 ·have d1 : decide (k < 1) = true := decide_eq_true k1
  clear hbad
  go_enter Tryz.func28, Tryz.ntmps28
  go_wp2_with (first | go_skip | (refine' aAq hR ?_; clear hR; intro blk w hR) | (refine' aBq hR ?_; clear hR; intro blk w hR) | (refine' aNq hR ?_) | (refine' aPq hR ?_) | (refine' aMq hR ?_) | (refine' aRq hR ?_; clear hR; intro w hR) | (refine' aUq hR ?_; clear hR; intro w hR) | (refine' aVq hR ?_) | (refine' aZq hR ?_) | (refine' aDr hR ?_) | fail)
  go_ret2
  exact ⟨rfl, hR.weaken (List.sublist_cons_self _ _)⟩
 ·have d1 : decide (k < 1) = false := decide_eq_false k1
  by_cases k2 : 3 < k
  ·have d2 : decide (3 < k) = true := decide_eq_true k2
   clear hbad
   go_enter Tryz.func28, Tryz.ntmps28
   go_wp2_with (first | go_skip | (refine' aAq hR ?_; clear hR; intro blk w hR) | (refine' aBq hR ?_; clear hR; intro blk w hR) | (refine' aNq hR ?_) | (refine' aPq hR ?_) | (refine' aMq hR ?_) | (refine' aRq hR ?_; clear hR; intro w hR) | (refine' aUq hR ?_; clear hR; intro w hR) | (refine' aVq hR ?_) | (refine' aZq hR ?_) | (refine' aDr hR ?_) | fail)
   go_ret2
   exact ⟨rfl, hR.weaken (List.sublist_cons_self _ _)⟩
  ·have d2 : decide (3 < k) = false := decide_eq_false k2
   by_cases k3 : n = 0
   ·subst k3
    clear hbad
    go_enter Tryz.func28, Tryz.ntmps28
    go_wp2_with (first | go_skip | (refine' aAq hR ?_; clear hR; intro blk w hR) | (refine' aBq hR ?_; clear hR; intro blk w hR) | (refine' aNq hR ?_) | (refine' aPq hR ?_) | (refine' aMq hR ?_) | (refine' aRq hR ?_; clear hR; intro w hR) | (refine' aUq hR ?_; clear hR; intro w hR) | (refine' aVq hR ?_) | (refine' aZq hR ?_) | (refine' aDr hR ?_) | fail)
    go_ret2
    exact ⟨rfl, hR.weaken (List.sublist_cons_self _ _)⟩
   ·have k4 : m ≠ n := ((hbad.resolve_left k1).resolve_left k2).resolve_left k3
    have d3 : ((n : Int) == 0) = false := by simp; omega
    have e3 : ¬ (n : Int) = 0 := by omega
    have d4 : ((m : Int) == (n : Int)) = false := by simp; omega
    have d5 : ((m : Int) != (n : Int)) = true := by simp; omega
    have e4 : ¬ (m : Int) = (n : Int) := by omega
    clear hbad
    go_enter Tryz.func28, Tryz.ntmps28
    go_wp2_with (first | go_skip | (refine' aAq hR ?_; clear hR; intro blk w hR) | (refine' aBq hR ?_; clear hR; intro blk w hR) | (refine' aNq hR ?_) | (refine' aPq hR ?_) | (refine' aMq hR ?_) | (refine' aRq hR ?_; clear hR; intro w hR) | (refine' aUq hR ?_; clear hR; intro w hR) | (refine' aVq hR ?_) | (refine' aZq hR ?_) | (refine' aDr hR ?_) | fail)
    go_ret2
    exact ⟨rfl, hR.weaken (List.sublist_cons_self _ _)⟩
theorem rraise_go (hp : p < B) (hq : q < B) (hn : n ≤ 1000) (hA : IAt B0 w0 [] aa n ca A) (hP : NAt B0 w0 [] pa n cq Pw) {k : Nat} (hno : ¬ raBad n n (k : Int)) {V2 : Nat → Nat} {E2 : Nat → Int}
  (h2 : errF (shE1 p A Pw) n = 0 → ∀ s : Nat, s < 3 → ∃ (kk : Nat) (F : Nat → Nat), kk ≤ 1000 ∧ (∀ j, j < kk → F j < B) ∧
   (∀ {L : List (Nat × Obj)} {w : World} {a : Option Addr} {cp : Nat}, NAt B0 w0 L a n cp (shV1 q A) → Rep B0 w0 L w → Calls Tryz.prog 12 #[grp p q g h, .slice a n cp, num (sOf q (-(s : Int) - 1))] w fun e w' => ∃ X : GrN, e = .returned (.tuple #[.slice X.a kk X.cap, .int .i64 (E2 s)]) ∧ xCc X kk F ∧ Rep B0 w0 (X.bl ++ L) w') ∧
   (E2 s = 0 → ∀ {L : List (Nat × Obj)} {w : World} {pa pn : Option Addr} {ca cn : Nat}, NAt B0 w0 L pa n ca Pw → NAt B0 w0 L pn kk cn F → Rep B0 w0 L w → Calls Tryz.prog 113 #[grp p q g h, .slice pa n ca, .slice pn kk cn] w fun e w' => e = .returned (.tuple #[num (V2 s), .int .i64 0]) ∧ Below w.heap.size w w')) (hR : Rep B0 w0 L w) :
  Calls Tryz.prog 28 #[grp p q g h, .slice aa n ca, .slice pa n cq, .int .i64 (k : Int)] w fun e w' => ∃ X : GrN, e = .returned (.tuple #[.slice X.a (raK n n (errF (shE1 p A Pw) n) E2 k) X.cap, .int .i64 (raE n n (errF (shE1 p A Pw) n) E2 k)]) ∧ xCc X (raK n n (errF (shE1 p A Pw) n) E2 k) V2 ∧ Rep B0 w0 (X.bl ++ L) w' := by
 classical
 have k1 : ¬ (k : Int) < 1 := fun h => hno (.inl h)
 have k2 : ¬ 3 < (k : Int) := fun h => hno (.inr (.inl h))
 have hk3 : k ≤ 3 := by omega
 have hk1000 : k ≤ 1000 := by omega
 have k3 : n ≠ 0 := fun h => hno (.inr (.inr (.inl h)))
 have d1 : decide ((k : Int) < 1) = false := decide_eq_false k1
 have d2 : decide (3 < (k : Int)) = false := decide_eq_false k2
 have d3 : ((n : Int) == 0) = false := by simp; omega
 have e3 : ¬ (n : Int) = 0 := by omega
 have rlt : ∀ j, j < n → shV1 q A j < B := fun j _ => by
  by_cases hb : shBad A j
  ·rw [shV1_bad hb]; exact xEy
  ·rw [xHp hb]; exact sOf_ltB hq _
 obtain ⟨K1, hK1⟩ : ∃ x, raK n n (errF (shE1 p A Pw) n) E2 k = x := ⟨_, rfl⟩
 obtain ⟨ke, hke⟩ : ∃ x, raE n n (errF (shE1 p A Pw) n) E2 k = x := ⟨_, rfl⟩
 rw [hK1, hke]
 have hstop : ∀ i, i < n → (∀ j, j < i → shE1 p A Pw j = 0) → shE1 p A Pw i = 1 → K1 = 0 ∧ ke = 1 := fun i hi h0 h1 => by
  have e := xJt hi h0 (by rw [h1]; decide)
  rw [h1] at e
  exact ⟨by rw [← hK1]; exact raK_one hno (by rw [e]; decide), by rw [← hke, raE_one hno (by rw [e]; decide), e]⟩
 have hfin : (∀ j, j < n → shE1 p A Pw j = 0) → (K1 = if errF E2 k = 0 then k else 0) ∧ ke = errF E2 k := fun h => by
  have e := xEr h
  exact ⟨by rw [← hK1, raK_two hno e, Int.toNat_natCast], by rw [← hke, raE_two hno e, Int.toNat_natCast]⟩
 have h2' : (∀ j, j < n → shE1 p A Pw j = 0) → _ := fun h => h2 (xEr h)
 clear h2 hK1 hke hno
 replace hstop := Held.mk hstop
 replace hfin := Held.mk hfin
 replace h2' := Held.mk h2'
 replace rlt := Held.mk rlt
 replace hA := Held.mk hA
 replace hP := Held.mk hP
 go_enter Tryz.func28, Tryz.ntmps28
 go_wp2_with (first | go_skip | (refine' aAq hR ?_; clear hR; intro blk w hR) | (refine' aBq hR ?_; clear hR; intro blk w hR) | (refine' aNq hR ?_) | (refine' aPq hR ?_) | (refine' aMq hR ?_) | (refine' aRq hR ?_; clear hR; intro w hR) | (refine' aUq hR ?_; clear hR; intro w hR) | (refine' aVq hR ?_) | (refine' aZq hR ?_) | (refine' aDr hR ?_) | fail)
 obtain ⟨bg, hbg⟩ : ∃ b, b = blk := ⟨_, rfl⟩
 subst hbg
 try simp only [Act.put, kA, kB, List.setIfInBounds_toArray]
 refine' xAv (false :: false :: false :: false :: false :: false :: false :: false :: false :: false :: false :: false :: true :: false :: false :: false :: false :: false :: false :: false :: false :: false :: false :: false :: false :: false :: false :: false :: false :: false :: false :: false :: false :: false :: false :: false :: false :: true :: true :: true :: true :: true :: true :: true :: true :: true :: true :: true :: true :: true :: true :: true :: true :: true :: true :: true :: true :: true :: true :: true :: true :: true :: true :: true :: true :: true :: true :: true :: true :: true :: true :: true :: true :: true :: true :: true :: true :: true :: true :: true :: true :: true :: true :: true :: true :: true :: true :: true :: false :: false :: false :: false :: false :: false :: false :: false :: false :: false :: false :: false :: false :: false :: false :: false :: false :: false :: false :: false :: false :: false :: false :: false :: false :: false :: false :: false :: false :: false :: []) (fun (x : Nat × GrN) l => (l.set 10 (.slice x.2.a x.1 x.2.cap)).set 11 (.int .i64 (x.1 : Int))) (fun x => (bg, .cells (gl p q g h).toArray 26) :: (x.2.bl ++ L)) (fun x => n - x.1) (fun x => x.1 ≤ n ∧ xCc x.2 x.1 (shV1 q A) ∧ ∀ j, j < x.1 → shE1 p A Pw j = 0) (0, ⟨none, 0, []⟩) ?h0 ?hO ?hR ?hs
 case h0 => exact xAf rfl rfl rfl
 case hO => exact ⟨Nat.zero_le _, xBj _, fun j hj => absurd hj (Nat.not_lt_zero _)⟩
 case hR => exact hR
 case hs =>
  clear hR
  intro x tm w hO ht hR K hK
  obtain ⟨i, X⟩ := x
  obtain ⟨hi, hx, hz⟩ := hO
  simp only at hi hx hz ht hR
  have g0 : 0 ≤ (i : Int) := by omega
  by_cases hik : i = n
  ·rw [hik] at hx hz ht
   have t1 : ¬ (n : Int) < (n : Int) := by omega
   obtain ⟨hf1, hf2⟩ := hfin.out hz
   have h3 := h2'.out hz
   replace hf1 := Held.mk hf1
   replace hf2 := Held.mk hf2
   replace h3 := Held.mk h3
   replace hx := Held.mk hx
   clear hK hz hik hi hfin hstop h2' hA g0 i
   repeat (first | (obtain ⟨x, tm', e, ht'⟩ := xAc ht; clear ht; subst e; have ht := ht'; clear ht') | (obtain ⟨tm', e, ht'⟩ := xAa ht; clear ht; subst e; have ht := ht'; clear ht'))
   obtain rfl := xAe ht
   clear ht
   go_wp2_with (first | (refine' aAq hR ?_; clear hR; intro blk w hR) | (refine' aBq hR ?_; clear hR; intro blk w hR) | (refine' aNq hR ?_) | (refine' aPq hR ?_) | (refine' aMq hR ?_) | (refine' aRq hR ?_; clear hR; intro w hR) | (refine' aUq hR ?_; clear hR; intro w hR) | fail)
   try simp only [Act.put, kA, kB, List.setIfInBounds_toArray]
   refine' xAv (false :: false :: false :: false :: false :: false :: false :: false :: false :: false :: false :: false :: false :: false :: false :: true :: true :: true :: true :: false :: false :: false :: false :: false :: false :: false :: false :: false :: false :: false :: false :: false :: false :: false :: false :: false :: false :: false :: false :: false :: false :: false :: false :: false :: false :: false :: false :: false :: false :: false :: false :: false :: false :: false :: false :: false :: false :: false :: false :: false :: false :: false :: false :: false :: false :: false :: false :: false :: false :: false :: false :: false :: false :: false :: false :: false :: false :: false :: false :: false :: false :: false :: false :: false :: false :: false :: false :: false :: true :: true :: true :: true :: true :: true :: true :: true :: true :: true :: true :: true :: true :: true :: true :: true :: true :: true :: true :: true :: true :: true :: true :: true :: true :: true :: true :: true :: true :: false :: []) (fun (y : Nat × GrN) l => (l.set 13 (.slice y.2.a y.1 y.2.cap)).set 14 (.int .i64 ((y.1 : Int) + 1))) (fun y => (bg, .cells (gl p q g h).toArray 26) :: (y.2.bl ++ (X.bl ++ L))) (fun y => k - y.1) (fun y => y.1 ≤ k ∧ xCc y.2 y.1 V2 ∧ ∀ j, j < y.1 → E2 j = 0) (0, ⟨none, 0, []⟩) ?u0 ?uO ?uR ?us
   case u0 => exact xAf rfl rfl rfl
   case uO => exact ⟨Nat.zero_le _, xBj _, fun j hj => absurd hj (Nat.not_lt_zero _)⟩
   case uR => exact hR
   case us =>
    clear hR
    intro y tm w hO ht hR K2 hK2
    obtain ⟨s, Y⟩ := y
    obtain ⟨hs, hy, hz2⟩ := hO
    simp only at hs hy hz2 ht hR
    by_cases hsk : s = k
    ·rw [hsk] at hy hz2 ht
     have u1 : ¬ (k : Int) + 1 ≤ (k : Int) := by omega
     have hE0 := xEr hz2
     have e1 : K1 = k := by rw [hf1.out, if_pos hE0]
     have e2 : ke = 0 := by rw [hf2.out, hE0]
     subst e1 e2
     replace hy := Held.mk hy
     clear hK2 hz2 hsk hs hf1 hf2 h3 hE0 hx s
     repeat (first | (obtain ⟨x, tm', e, ht'⟩ := xAc ht; clear ht; subst e; have ht := ht'; clear ht') | (obtain ⟨tm', e, ht'⟩ := xAa ht; clear ht; subst e; have ht := ht'; clear ht'))
     obtain rfl := xAe ht
     clear ht
     go_wp2_with (first | (refine' aAq hR ?_; clear hR; intro blk w hR) | (refine' aBq hR ?_; clear hR; intro blk w hR) | (refine' aNq hR ?_) | (refine' aPq hR ?_) | (refine' aMq hR ?_) | (refine' aRq hR ?_; clear hR; intro w hR) | (refine' aUq hR ?_; clear hR; intro w hR) | fail)
     go_ret2
     exact ⟨Y, rfl, hy.out, hR.weaken ((List.Sublist.append (List.Sublist.refl _) (List.sublist_append_right _ _)).trans (List.sublist_cons_self _ _))⟩
    ·have hsl : s < k := Nat.lt_of_le_of_ne hs hsk
     obtain ⟨-, e1, ek, hbig, hs1, hmu, u1, -, -⟩ := step_facts hsl hk1000
     obtain ⟨ys, hys, n1, n2, n3, n4, n5, y1, y2⟩ := neg_facts (s := s) (Nat.le_trans (Nat.le_of_lt hsl) hk1000)
     obtain ⟨kk, F, hkk, hF, cW, cP⟩ := h3.out s (Nat.lt_of_lt_of_le hsl hk3)
     rw [hys] at cW
     have hstop2 : E2 s ≠ 0 → K1 = 0 ∧ ke = E2 s := fun h => by
      have e := xJt hsl hz2 h
      exact ⟨by rw [hf1.out, if_neg (by rw [e]; exact h)], by rw [hf2.out, e]⟩
     have hz3 : E2 s = 0 → ∀ j, j < s + 1 → E2 j = 0 := fun h j hj => if h4 : j = s then by rw [h4, h] else hz2 j (Nat.lt_of_le_of_ne (Nat.le_of_lt_succ hj) h4)
     obtain ⟨es, hes⟩ : ∃ e, E2 s = e := ⟨_, rfl⟩
     rw [hes] at cW cP hstop2 hz3
     obtain ⟨v, hv⟩ : ∃ v, V2 s = v := ⟨_, rfl⟩
     rw [hv] at cP
     obtain ⟨xs, hxs⟩ : ∃ v, sOf q ys = v := ⟨_, rfl⟩
     rw [hxs] at cW
     have cS := fun w : World => xIr p q g h ys hq y1 y2 w
     simp only [hxs] at cS
     have cW2 := fun (w : World) (hw : Rep B0 w0 ((bg, .cells (gl p q g h).toArray 26) :: (Y.bl ++ (X.bl ++ L))) w) => cW (xEj hx.out rlt.out fun x hx => .tail _ (List.mem_append_right _ (List.mem_append_left _ hx))) hw
     replace ek := Held.mk ek
     replace hs1 := Held.mk hs1
     replace hmu := Held.mk hmu
     replace hstop2 := Held.mk hstop2
     replace hz3 := Held.mk hz3
     replace hv := Held.mk hv
     replace cP := Held.mk (show es = 0 → ∀ (L : List (Nat × Obj)) (w : World) (Z : GrN), xCc Z kk F → (∀ x, x ∈ Z.bl → x ∈ L) → Rep B0 w0 L w → _ from fun h L w Z hZ hm hw => cP h (hP.out.any (L := L)) (xEj hZ hF hm) hw)
     clear hs hsk hz2 hf1 hf2 h3 cW hF hkk hes hxs hys y1 y2 hsl
     repeat (first | (obtain ⟨x, tm', e, ht'⟩ := xAc ht; clear ht; subst e; have ht := ht'; clear ht') | (obtain ⟨tm', e, ht'⟩ := xAa ht; clear ht; subst e; have ht := ht'; clear ht'))
     obtain rfl := xAe ht
     clear ht
     go_wp2_with (first | (refine' aAq hR ?_; clear hR; intro blk w hR) | (refine' aBq hR ?_; clear hR; intro blk w hR) | (refine' aNq hR ?_) | (refine' aPq hR ?_) | (refine' aMq hR ?_) | (refine' aRq hR ?_; clear hR; intro w hR) | (refine' aUq hR ?_; clear hR; intro w hR) | fail)
     rename_i K5 k5
     try simp only [Act.put, kA, kB, List.setIfInBounds_toArray]
     refine xBl hR 12 xBd rfl ?_
     clear hR
     refine xCo [(bg, Obj.cells (gl p q g h).toArray 26)] [1, 1, 1, 1, 1, 1, 2, 2, 2, 2, 2, 2] 6 rfl (by repeat (first | exact xAu | refine xAx (by repeat (first | exact .head _ | with_reducible assumption | apply mC)) ?_)) (by repeat (first | exact xAu | refine xAx (by repeat (first | exact .head _ | with_reducible assumption | apply mC)) ?_)) rfl (by decide +kernel) (fun K hK => ?_)
     repeat ((first | (refine' xBu rfl rfl rfl inferInstance ?hm ?hn ?ha ?_; (case hm => exact .head _); (case hn => rfl)) | (refine xAp ?_) | (refine' xAj (by decide) rfl (.inl rfl) rfl ?ha ?_) | (refine' xAj (by decide) rfl (.inr rfl) rfl ?ha ?_) | (refine' aOq ?ha ?_) | (refine' aSq ?ha ?_) | (refine' aXq ?ha ?_) | (refine' aWq ?ha ?_) | (refine' aAr ?ha ?_) | ((first | refine' xAg (by decide) rfl rfl rfl rfl (fun w => ?hq) ?ha ?_ | refine' xAm (by decide) rfl rfl rfl rfl (fun w => ?hq) ?ha ?_ | refine' xAt (by decide) rfl rfl rfl (fun w => ?hq) ?ha ?_ | refine' xAl (by decide) rfl rfl rfl (fun w => ?hq) ?ha ?_ | refine' xBy (by decide) rfl rfl rfl (fun w => ?hq) ?ha ?_ | refine' xEx (by decide) rfl rfl rfl rfl (fun w => ?hq) ?ha ?_ | refine' xCq (by decide) rfl rfl rfl rfl rfl rfl (fun w => ?hq) ?ha ?_ | refine' xCr (by decide) rfl rfl (fun w => ?hq) ?ha ?_ | refine' xCn (by decide) rfl rfl rfl (fun w => ?hq) ?ha ?_ | refine' xDi (by decide) rfl rfl rfl (fun w => ?hq) ?ha ?_); (case hq => go_simp; try rfl)) | (refine' xAz (by decide) rfl rfl rfl ?ha ?_) | (refine' xBh (by decide) rfl rfl rfl rfl ?ha ?_) | (refine' xCe (by decide) rfl ?ha ?_) | (refine' xDy (by decide) rfl rfl rfl (fun w => ?hq) ?ha ?_; (case hq => go_simp; try rfl)) | (refine' xBk rfl rfl rfl (xAi Tryz.func42 (by kernel_rfl) (by kernel_rfl) _) (fun w => cS w) ?ha ?_)); try (case ha => simp only [kP, kQ, kA, kB]; try rfl))
     refine xAo (hK _ _ ?_)
     clear hK K
     try simp only [Act.put, kA, kB, List.setIfInBounds_toArray]
     refine f_at [6] (by decide +kernel) rfl ?_
     refine f_is 6 ?_
     refine f_call (fun v M => ∃ Z : GrN, v = .tuple #[.slice Z.a kk Z.cap, .int .i64 es] ∧ xCc Z kk F ∧ M = (bg, .cells (gl p q g h).toArray 26) :: (Z.bl ++ (Y.bl ++ (X.bl ++ L)))) rfl rfl rfl rfl rfl (xAi Tryz.func12 (by kernel_rfl) (by kernel_rfl) _) (fun w hw => (cW2 w hw).mono fun e w' ⟨X, h1, h2, h3⟩ => ⟨_, h1, _, ⟨X, rfl, h2, rfl⟩, h3.permN List.perm_middle⟩) ?_ xCl
     rintro v0 M ⟨Z, rfl, hZ, rfl⟩
     refine ⟨(fun p hp => by rw [List.mem_singleton.1 hp]; exact .head _), ?_⟩
     simp only [Act.put, kA, kB, List.setIfInBounds_toArray]
     refine f_at [7] (by decide +kernel) rfl ?_
     refine f_is 7 ?_
     refine f_y rfl rfl (xAy rfl (.inr rfl) rfl) (fun p hp => by rw [List.mem_singleton.1 hp]; exact .head _) ?_ xCl
     simp only [Act.put, kA, kB, List.setIfInBounds_toArray]
     refine xCo [(bg, Obj.cells (gl p q g h).toArray 26)] [2, 2, 2, 2, 2, 2, 2, 2, 1, 1, 2, 2] 2 rfl (by repeat (first | exact xAu | refine xAx (by repeat (first | exact .head _ | with_reducible assumption | apply mC)) ?_)) (by repeat (first | exact xAu | refine xAx (by repeat (first | exact .head _ | with_reducible assumption | apply mC)) ?_)) rfl (by decide +kernel) (fun K hK => ?_)
     repeat ((first | (refine xAp ?_) | (refine' xAj (by decide) rfl (.inl rfl) rfl ?ha ?_) | (refine' xAj (by decide) rfl (.inr rfl) rfl ?ha ?_) | (refine' aOq ?ha ?_) | (refine' aSq ?ha ?_) | (refine' aXq ?ha ?_) | (refine' aWq ?ha ?_) | (refine' aAr ?ha ?_) | ((first | refine' xAg (by decide) rfl rfl rfl rfl (fun w => ?hq) ?ha ?_ | refine' xAm (by decide) rfl rfl rfl rfl (fun w => ?hq) ?ha ?_ | refine' xAt (by decide) rfl rfl rfl (fun w => ?hq) ?ha ?_ | refine' xAl (by decide) rfl rfl rfl (fun w => ?hq) ?ha ?_ | refine' xBy (by decide) rfl rfl rfl (fun w => ?hq) ?ha ?_ | refine' xEx (by decide) rfl rfl rfl rfl (fun w => ?hq) ?ha ?_ | refine' xCq (by decide) rfl rfl rfl rfl rfl rfl (fun w => ?hq) ?ha ?_ | refine' xCr (by decide) rfl rfl (fun w => ?hq) ?ha ?_ | refine' xCn (by decide) rfl rfl rfl (fun w => ?hq) ?ha ?_ | refine' xDi (by decide) rfl rfl rfl (fun w => ?hq) ?ha ?_); (case hq => go_simp; try rfl)) | (refine' xAz (by decide) rfl rfl rfl ?ha ?_) | (refine' xBh (by decide) rfl rfl rfl rfl ?ha ?_) | (refine' xCe (by decide) rfl ?ha ?_) | fail); try (case ha => simp only [kP, kQ, kA, kB]; try rfl))
     refine xAo (hK _ _ ?_)
     clear hK K
     try simp only [Act.put, kA, kB, List.setIfInBounds_toArray]
     refine f_at [10] (by decide +kernel) rfl ?_
     refine f_is 10 ?_
     refine f_y rfl rfl (xAy rfl (.inl rfl) rfl) (fun p hp => by rw [List.mem_singleton.1 hp]; exact .head _) ?_ xCl
     simp only [Act.put, kA, kB, List.setIfInBounds_toArray]
     refine f_at [11] (by decide +kernel) rfl ?_
     refine f_is 11 ?_
     refine f_y rfl rfl (xAy rfl (.inl rfl) rfl) (fun p hp => by rw [List.mem_singleton.1 hp]; exact .head _) ?_ xCl
     simp only [Act.put, kA, kB, List.setIfInBounds_toArray]
     refine f_end (by decide +kernel) (fun w hR => ?_)
     simp only [Exit.then, Exit.inBlock]
     refine k5 _ _ ?_
     clear k5 K5 cW2 cS n1 n2 n3 n4 n5
     by_cases hE : es = 0
     ·subst hE
      have hz4 := hz3.out rfl
      replace hz4 := Held.mk hz4
      have cP2 := fun (w : World) (hw : Rep B0 w0 ((bg, .cells (gl p q g h).toArray 26) :: (Z.bl ++ (Y.bl ++ (X.bl ++ L)))) w) => cP.out rfl _ w Z hZ (fun x hx => .tail _ (List.mem_append_left _ hx)) hw
      clear cP hZ
      go_wp2_with (first | (refine' aAq hR ?_; clear hR; intro blk w hR) | (refine' aBq hR ?_; clear hR; intro blk w hR) | (refine' aNq hR ?_) | (refine' aPq hR ?_) | (refine' aMq hR ?_) | (refine' aRq hR ?_; clear hR; intro w hR) | (refine' aUq hR ?_; clear hR; intro w hR) | (go_at_call 113; refine (cP2 _ hR).mono ?_; rintro e w ⟨rfl, hb⟩; replace hR := hR.call hb; clear hb) | (refine' xBz hR (xBv rfl rfl rfl) ?_; clear hR; intro bt w hR) | (refine' xBp (L' := fun l => (blk, .cells (nl v).toArray 24) :: (bg, .cells (gl p q g h).toArray 26) :: (Z.bl ++ (l ++ (X.bl ++ L)))) hR (fun l => perm_far _ _ _ _ _) rfl rfl rfl rfl hy hv.out hbig ?_; clear hR hy; intro Y' w hy hR))
      exact hK2.out (s + 1, Y') _ _ ⟨hs1.out, hy, hz4.out⟩ hmu.out (by simp only [ek.out]; exact xAf rfl rfl rfl) (hR.weaken (((List.sublist_append_right _ _).cons_cons _).trans (List.sublist_cons_self _ _)))
     ·have c1 : (es == 0) = false := by simp; exact hE
      have c2 : (es != 0) = true := by simp; exact hE
      obtain ⟨hs1', hs2'⟩ := hstop2.out hE
      subst hs1' hs2'
      clear hK2 hy cP hZ
      go_wp2_with (first | (refine' aAq hR ?_; clear hR; intro blk w hR) | (refine' aBq hR ?_; clear hR; intro blk w hR) | (refine' aNq hR ?_) | (refine' aPq hR ?_) | (refine' aMq hR ?_) | (refine' aRq hR ?_; clear hR; intro w hR) | (refine' aUq hR ?_; clear hR; intro w hR) | fail)
      go_ret2
      exact ⟨⟨none, 0, []⟩, rfl, xBj _, hR.weaken ((((List.sublist_append_right _ _).trans (List.sublist_append_right _ _)).trans (List.sublist_append_right _ _)).trans (List.sublist_cons_self _ _))⟩
  ·have hin : i < n := by omega
   have g1 : (i : Int) < (n : Int) := by omega
   have hstop1 := hstop.out i hin hz
   obtain ⟨bb, off, rfl, hxa⟩ := hA.out.at' (by omega)
   obtain ⟨b2, off2, rfl, hxp⟩ := hP.out.at' (by omega)
   have ld := fun (j : Nat) (hj : j < n) (L : List (Nat × Obj)) (w : World) (hw : Rep B0 w0 L w) => xDu (hxa w (hw.weaken (List.nil_sublist _)) j hj)
   have ldi := ld i hin
   have ldp := fun (L : List (Nat × Obj)) (w : World) (hw : Rep B0 w0 L w) => xBc (hxp w (hw.weaken (List.nil_sublist _)) i hin)
   have lp := hP.out.lt i hin
   have ei : IntKind.i64.wrap ((i : Int) + 1) = (i : Int) + 1 := by rw [IntKind.wrap_i64]; omega
   have ek : ((i + 1 : Nat) : Int) = (i : Int) + 1 := by omega
   by_cases k1' : A i < 0
   ·obtain ⟨rfl, rfl⟩ := hstop1 (xHc (.inl k1'))
    generalize A i = ai at *
    clear hK hfin hstop h2' hx hz hA hP hxa hxp rlt ld hi hik
    repeat (first | (obtain ⟨x, tm', e, ht'⟩ := xAc ht; clear ht; subst e; have ht := ht'; clear ht') | (obtain ⟨tm', e, ht'⟩ := xAa ht; clear ht; subst e; have ht := ht'; clear ht'))
    obtain rfl := xAe ht
    clear ht
    go_wp2_with (first | (refine' aAq hR ?_; clear hR; intro blk w hR) | (refine' aBq hR ?_; clear hR; intro blk w hR) | (refine' aNq hR ?_) | (refine' aPq hR ?_) | (refine' aMq hR ?_) | (refine' aRq hR ?_; clear hR; intro w hR) | (refine' aUq hR ?_; clear hR; intro w hR) | fail)
    refine xAd hR [0, 0, 0, 0, 0, 0, 0, 0, 0, 0, 0, 0, 0, 0, 0, 0, 0, 0, 0, 0, 0] [] xBd (by kernel_rfl) rfl rfl (fun K hK => ?_)
    clear hR
    repeat ((first | (refine xAp ?_) | (refine' xAj (by decide) rfl (.inl rfl) rfl ?ha ?_) | (refine' xAj (by decide) rfl (.inr rfl) rfl ?ha ?_) | (refine' aOq ?ha ?_) | (refine' aSq ?ha ?_) | (refine' aXq ?ha ?_) | (refine' aWq ?ha ?_) | (refine' aAr ?ha ?_) | ((first | refine' xAg (by decide) rfl rfl rfl rfl (fun w => ?hq) ?ha ?_ | refine' xAm (by decide) rfl rfl rfl rfl (fun w => ?hq) ?ha ?_ | refine' xAt (by decide) rfl rfl rfl (fun w => ?hq) ?ha ?_ | refine' xAl (by decide) rfl rfl rfl (fun w => ?hq) ?ha ?_ | refine' xBy (by decide) rfl rfl rfl (fun w => ?hq) ?ha ?_ | refine' xEx (by decide) rfl rfl rfl rfl (fun w => ?hq) ?ha ?_ | refine' xCq (by decide) rfl rfl rfl rfl rfl rfl (fun w => ?hq) ?ha ?_ | refine' xCr (by decide) rfl rfl (fun w => ?hq) ?ha ?_ | refine' xCn (by decide) rfl rfl rfl (fun w => ?hq) ?ha ?_ | refine' xDi (by decide) rfl rfl rfl (fun w => ?hq) ?ha ?_); (case hq => go_simp; try rfl)) | (refine' xAz (by decide) rfl rfl rfl ?ha ?_) | (refine' xBh (by decide) rfl rfl rfl rfl ?ha ?_) | (refine' xCe (by decide) rfl ?ha ?_) | (refine' xAn rfl rfl rfl (fun w hw => ldi _ w hw) ?ha ?_) | (refine' xDy (by decide) rfl rfl rfl (fun w => ?hq) ?ha ?_; (case hq => go_simp; try rfl))); try (case ha => simp only [kP, kQ, kA, kB]; try rfl))
    refine xAo (hK _ _ ?_)
    clear hK K
    refine xAr (fun Q hQ => ?_)
    try simp only [List.nil_append, List.cons_append]
    repeat ((first | refine' xBf rfl (.inl rfl) rfl ?hk ?ha ?_ | refine' xBf rfl (.inr rfl) rfl ?hk ?ha ?_ | (refine' aTq ?hk ?ha ?_) | (refine' aEr ?hk ?ha ?_) | (refine' aFr ?hk ?ha ?_) | (refine' xHe rfl (fun w => ?hq) ?hk ?ha ?_; (case hq => go_simp; try rfl))); (case hk => intro p hp; first | exact absurd hp List.not_mem_nil | (obtain rfl := List.mem_singleton.1 hp; repeat (first | exact List.Mem.head _ | with_reducible assumption | apply mC))); (case ha => simp only [kP, kQ, kA, kB]; try rfl))
    refine xAs (fun w hR => hQ _ _ ?_)
    clear hQ Q
    go_wp2_with (first | (refine' aAq hR ?_; clear hR; intro blk w hR) | (refine' aBq hR ?_; clear hR; intro blk w hR) | (refine' aNq hR ?_) | (refine' aPq hR ?_) | (refine' aMq hR ?_) | (refine' aRq hR ?_; clear hR; intro w hR) | (refine' aUq hR ?_; clear hR; intro w hR) | fail)
    go_ret2
    exact ⟨⟨none, 0, []⟩, rfl, xBj _, hR.weaken ((List.sublist_append_right _ _).trans (List.sublist_cons_self _ _))⟩
   ·by_cases k2' : 7 ≤ A i
    ·obtain ⟨rfl, rfl⟩ := hstop1 (xHc (.inr (.inl k2')))
     have f1 : decide (A i < 0) = false := decide_eq_false k1'
     have f2 : decide (7 ≤ A i) = true := decide_eq_true k2'
     generalize A i = ai at *
     clear hK hfin hstop h2' hx hz hA hP hxa hxp rlt ld hi hik
     repeat (first | (obtain ⟨x, tm', e, ht'⟩ := xAc ht; clear ht; subst e; have ht := ht'; clear ht') | (obtain ⟨tm', e, ht'⟩ := xAa ht; clear ht; subst e; have ht := ht'; clear ht'))
     obtain rfl := xAe ht
     clear ht
     go_wp2_with (first | (refine' aAq hR ?_; clear hR; intro blk w hR) | (refine' aBq hR ?_; clear hR; intro blk w hR) | (refine' aNq hR ?_) | (refine' aPq hR ?_) | (refine' aMq hR ?_) | (refine' aRq hR ?_; clear hR; intro w hR) | (refine' aUq hR ?_; clear hR; intro w hR) | fail)
     refine xAd hR [0, 0, 0, 0, 0, 0, 0, 0, 0, 0, 0, 0, 0, 0, 0, 0, 0, 0, 0, 0, 0] [] xBd (by kernel_rfl) rfl rfl (fun K hK => ?_)
     clear hR
     repeat ((first | (refine xAp ?_) | (refine' xAj (by decide) rfl (.inl rfl) rfl ?ha ?_) | (refine' xAj (by decide) rfl (.inr rfl) rfl ?ha ?_) | (refine' aOq ?ha ?_) | (refine' aSq ?ha ?_) | (refine' aXq ?ha ?_) | (refine' aWq ?ha ?_) | (refine' aAr ?ha ?_) | ((first | refine' xAg (by decide) rfl rfl rfl rfl (fun w => ?hq) ?ha ?_ | refine' xAm (by decide) rfl rfl rfl rfl (fun w => ?hq) ?ha ?_ | refine' xAt (by decide) rfl rfl rfl (fun w => ?hq) ?ha ?_ | refine' xAl (by decide) rfl rfl rfl (fun w => ?hq) ?ha ?_ | refine' xBy (by decide) rfl rfl rfl (fun w => ?hq) ?ha ?_ | refine' xEx (by decide) rfl rfl rfl rfl (fun w => ?hq) ?ha ?_ | refine' xCq (by decide) rfl rfl rfl rfl rfl rfl (fun w => ?hq) ?ha ?_ | refine' xCr (by decide) rfl rfl (fun w => ?hq) ?ha ?_ | refine' xCn (by decide) rfl rfl rfl (fun w => ?hq) ?ha ?_ | refine' xDi (by decide) rfl rfl rfl (fun w => ?hq) ?ha ?_); (case hq => go_simp; try rfl)) | (refine' xAz (by decide) rfl rfl rfl ?ha ?_) | (refine' xBh (by decide) rfl rfl rfl rfl ?ha ?_) | (refine' xCe (by decide) rfl ?ha ?_) | (refine' xAn rfl rfl rfl (fun w hw => ldi _ w hw) ?ha ?_) | (refine' xDy (by decide) rfl rfl rfl (fun w => ?hq) ?ha ?_; (case hq => go_simp; try rfl))); try (case ha => simp only [kP, kQ, kA, kB]; try rfl))
     refine xAo (hK _ _ ?_)
     clear hK K
     refine xAr (fun Q hQ => ?_)
     try simp only [List.nil_append, List.cons_append]
     repeat ((first | refine' xBf rfl (.inl rfl) rfl ?hk ?ha ?_ | refine' xBf rfl (.inr rfl) rfl ?hk ?ha ?_ | (refine' aTq ?hk ?ha ?_) | (refine' aEr ?hk ?ha ?_) | (refine' aFr ?hk ?ha ?_) | (refine' xHe rfl (fun w => ?hq) ?hk ?ha ?_; (case hq => go_simp; try rfl))); (case hk => intro p hp; first | exact absurd hp List.not_mem_nil | (obtain rfl := List.mem_singleton.1 hp; repeat (first | exact List.Mem.head _ | with_reducible assumption | apply mC))); (case ha => simp only [kP, kQ, kA, kB]; try rfl))
     refine xAs (fun w hR => hQ _ _ ?_)
     clear hQ Q
     go_wp2_with (first | (refine' aAq hR ?_; clear hR; intro blk w hR) | (refine' aBq hR ?_; clear hR; intro blk w hR) | (refine' aNq hR ?_) | (refine' aPq hR ?_) | (refine' aMq hR ?_) | (refine' aRq hR ?_; clear hR; intro w hR) | (refine' aUq hR ?_; clear hR; intro w hR) | fail)
     go_ret2
     exact ⟨⟨none, 0, []⟩, rfl, xBj _, hR.weaken ((List.sublist_append_right _ _).trans (List.sublist_cons_self _ _))⟩
    ·have f1 : decide (A i < 0) = false := decide_eq_false k1'
     have f2 : decide (7 ≤ A i) = false := decide_eq_false k2'
     obtain ⟨pw, hpw⟩ : ∃ x, Pw i = x := ⟨_, rfl⟩
     rw [hpw] at ldp lp
     by_cases hm : mayG p pw
     ·have cM := fun w : World => xKd (q := q) (g := g) (h := h) hp lp (decide_eq_true hm) w
      have hgood : (∀ j, j < i → A j ≠ A i) → shE1 p A Pw i = 0 ∧ shV1 q A i = sOf q (A i + 1) := fun h => by
       have hb : ¬ shBad A i := fun hb => by
        rcases hb with hb | hb | ⟨j, h1, h2⟩
        ·exact k1' hb
        ·exact k2' hb
        ·exact h j h1 h2
       exact ⟨by rw [xHv hb, hpw, if_pos hm], xHp hb⟩
      have hdup : (∃ j, j < i ∧ A j = A i) → K1 = 0 ∧ ke = 1 := fun h => hstop1 (xHc (.inr (.inr h)))
      have cS := fun w : World => xIr p q g h (A i + 1) hq (by omega) (by omega) w
      have hsum : IntKind.i64.wrap (A i + 1) = A i + 1 := by rw [IntKind.wrap_i64]; omega
      obtain ⟨sv, hsv⟩ : ∃ x, sOf q (A i + 1) = x := ⟨_, rfl⟩
      simp only [hsv] at cS
      have hbig : i ≤ 1000000 := by omega
      have hi1 : i + 1 ≤ n := by omega
      have hmu : n - (i + 1) < n - i := by omega
      replace hgood := Held.mk (show (∀ j, j < i → A j ≠ A i) → (∀ j, j < i + 1 → shE1 p A Pw j = 0) ∧ shV1 q A i = sv from fun h => ⟨fun j hj => if h4 : j = i then by rw [h4]; exact (hgood h).1 else hz j (by omega), by rw [(hgood h).2, hsv]⟩)
      replace hdup := Held.mk hdup
      replace ek := Held.mk ek
      replace hi1 := Held.mk hi1
      replace hmu := Held.mk hmu
      replace ld := Held.mk ld
      replace hx := Held.mk hx
      obtain ⟨ai, hai⟩ : ∃ x, A i = x := ⟨_, rfl⟩
      rw [hai] at ldi f1 f2 hsum
      simp only [hai] at cS hgood hdup
      clear hfin hstop h2' hz hA hP hxa hxp rlt hi hik hstop1 hm hpw lp hsv k1' k2'
      repeat (first | (obtain ⟨x, tm', e, ht'⟩ := xAc ht; clear ht; subst e; have ht := ht'; clear ht') | (obtain ⟨tm', e, ht'⟩ := xAa ht; clear ht; subst e; have ht := ht'; clear ht'))
      obtain rfl := xAe ht
      clear ht
      go_wp2_with (first | (refine' aAq hR ?_; clear hR; intro blk w hR) | (refine' aBq hR ?_; clear hR; intro blk w hR) | (refine' aNq hR ?_) | (refine' aPq hR ?_) | (refine' aMq hR ?_) | (refine' aRq hR ?_; clear hR; intro w hR) | (refine' aUq hR ?_; clear hR; intro w hR) | fail)
      refine xAd hR [0, 0, 0, 0, 0, 0, 0, 0, 0, 0, 0, 0, 0, 0, 0, 0, 0, 0, 0, 0, 0] [] xBd (by kernel_rfl) rfl rfl (fun K hK => ?_)
      clear hR
      repeat ((first | (refine' xAn rfl rfl rfl (fun w hw => ldi _ w hw) ?ha ?_) | (refine' xAn rfl rfl rfl (fun w hw => ldp _ w hw) ?ha ?_) | (refine xAp ?_) | (refine' xAj (by decide) rfl (.inl rfl) rfl ?ha ?_) | (refine' xAj (by decide) rfl (.inr rfl) rfl ?ha ?_) | (refine' aOq ?ha ?_) | (refine' aSq ?ha ?_) | (refine' aXq ?ha ?_) | (refine' aWq ?ha ?_) | (refine' aAr ?ha ?_) | ((first | refine' xAg (by decide) rfl rfl rfl rfl (fun w => ?hq) ?ha ?_ | refine' xAm (by decide) rfl rfl rfl rfl (fun w => ?hq) ?ha ?_ | refine' xAt (by decide) rfl rfl rfl (fun w => ?hq) ?ha ?_ | refine' xAl (by decide) rfl rfl rfl (fun w => ?hq) ?ha ?_ | refine' xBy (by decide) rfl rfl rfl (fun w => ?hq) ?ha ?_ | refine' xEx (by decide) rfl rfl rfl rfl (fun w => ?hq) ?ha ?_ | refine' xCq (by decide) rfl rfl rfl rfl rfl rfl (fun w => ?hq) ?ha ?_ | refine' xCr (by decide) rfl rfl (fun w => ?hq) ?ha ?_ | refine' xCn (by decide) rfl rfl rfl (fun w => ?hq) ?ha ?_ | refine' xDi (by decide) rfl rfl rfl (fun w => ?hq) ?ha ?_); (case hq => go_simp; try rfl)) | (refine' xAz (by decide) rfl rfl rfl ?ha ?_) | (refine' xBh (by decide) rfl rfl rfl rfl ?ha ?_) | (refine' xCe (by decide) rfl ?ha ?_) | (refine' xDy (by decide) rfl rfl rfl (fun w => ?hq) ?ha ?_; (case hq => go_simp; try rfl)) | (refine' xAk rfl rfl rfl (xAi Tryz.func112 (by kernel_rfl) (by kernel_rfl) _) (fun w => cM w) ?ha ?_)); try (case ha => simp only [kP, kQ, kA, kB]; try rfl))
      refine xAo (hK _ _ ?_)
      clear hK K
      refine xAr (fun Q hQ => ?_)
      try simp only [List.nil_append, List.cons_append]
      repeat ((first | refine' xBf rfl (.inl rfl) rfl ?hk ?ha ?_ | refine' xBf rfl (.inr rfl) rfl ?hk ?ha ?_ | (refine' aTq ?hk ?ha ?_) | (refine' aEr ?hk ?ha ?_) | (refine' aFr ?hk ?ha ?_) | (refine' xHe rfl (fun w => ?hq) ?hk ?ha ?_; (case hq => go_simp; try rfl))); (case hk => intro p hp; first | exact absurd hp List.not_mem_nil | (obtain rfl := List.mem_singleton.1 hp; repeat (first | exact List.Mem.head _ | with_reducible assumption | apply mC))); (case ha => simp only [kP, kQ, kA, kB]; try rfl))
      refine xAs (fun w hR => hQ _ _ ?_)
      clear hQ Q
      go_wp2_with (first | (refine' aAq hR ?_; clear hR; intro blk w hR) | (refine' aBq hR ?_; clear hR; intro blk w hR) | (refine' aNq hR ?_) | (refine' aPq hR ?_) | (refine' aMq hR ?_) | (refine' aRq hR ?_; clear hR; intro w hR) | (refine' aUq hR ?_; clear hR; intro w hR) | fail)
      try simp only [Act.put, kA, kB, List.setIfInBounds_toArray]
      refine' xAv (false :: false :: false :: false :: false :: false :: false :: false :: false :: false :: false :: false :: false :: false :: false :: false :: false :: false :: false :: false :: false :: false :: false :: false :: false :: false :: false :: false :: false :: false :: false :: false :: false :: false :: false :: false :: false :: false :: false :: false :: false :: false :: false :: false :: false :: false :: false :: false :: false :: false :: false :: false :: false :: false :: false :: false :: false :: false :: false :: false :: false :: false :: false :: false :: true :: true :: true :: true :: true :: true :: true :: true :: true :: true :: true :: true :: true :: true :: false :: false :: false :: false :: false :: false :: false :: false :: false :: false :: false :: false :: false :: false :: false :: false :: false :: false :: false :: false :: false :: false :: false :: false :: false :: false :: false :: false :: false :: false :: false :: false :: false :: false :: false :: false :: false :: false :: false :: false :: []) (fun (c : Nat) l => l.set 12 (.int .i64 (c : Int))) (fun _ => (bg, .cells (gl p q g h).toArray 26) :: (X.bl ++ L)) (fun c => i - c) (fun c => c ≤ i ∧ ∀ j, j < c → A j ≠ ai) 0 ?v0 ?vO ?vR ?vs
      case v0 => exact xAf rfl rfl rfl
      case vO => exact ⟨Nat.zero_le _, fun j hj => absurd hj (Nat.not_lt_zero _)⟩
      case vR => exact hR
      case vs =>
       clear hR
       intro c tm w hO ht hR K3 hK3
       obtain ⟨hc, hd⟩ := hO
       have g3 : 0 ≤ (c : Int) := by omega
       by_cases hci : c = i
       ·rw [hci] at hd ht
        have v1 : ¬ (i : Int) < (i : Int) := by omega
        obtain ⟨hz1, hvi⟩ := hgood.out hd
        replace hz1 := Held.mk hz1
        replace hvi := Held.mk hvi
        clear hK3 hd hc hci g3 hgood hdup ld ldp c
        repeat (first | (obtain ⟨x, tm', e, ht'⟩ := xAc ht; clear ht; subst e; have ht := ht'; clear ht') | (obtain ⟨tm', e, ht'⟩ := xAa ht; clear ht; subst e; have ht := ht'; clear ht'))
        obtain rfl := xAe ht
        clear ht
        go_wp2_with (first | (refine' aAq hR ?_; clear hR; intro blk w hR) | (refine' aBq hR ?_; clear hR; intro blk w hR) | (refine' aNq hR ?_) | (refine' aPq hR ?_) | (refine' aMq hR ?_) | (refine' aRq hR ?_; clear hR; intro w hR) | (refine' aUq hR ?_; clear hR; intro w hR) | fail)
        try simp only [Act.put, kA, kB, List.setIfInBounds_toArray]
        refine xBl hR 11 xBd rfl ?_
        clear hR
        refine xCo [(bg, Obj.cells (gl p q g h).toArray 26)] [1, 1, 1, 1, 1, 1, 1, 1, 2, 2, 2] 3 rfl (by repeat (first | exact xAu | refine xAx (by repeat (first | exact .head _ | with_reducible assumption | apply mC)) ?_)) (by repeat (first | exact xAu | refine xAx (by repeat (first | exact .head _ | with_reducible assumption | apply mC)) ?_)) rfl (by decide +kernel) (fun K hK => ?_)
        repeat ((first | (refine' xBu rfl rfl rfl inferInstance ?hm ?hn ?ha ?_; (case hm => exact .head _); (case hn => rfl)) | (refine' xDr rfl rfl rfl ldi ?ha ?_) | (refine xAp ?_) | (refine' xAj (by decide) rfl (.inl rfl) rfl ?ha ?_) | (refine' xAj (by decide) rfl (.inr rfl) rfl ?ha ?_) | (refine' aOq ?ha ?_) | (refine' aSq ?ha ?_) | (refine' aXq ?ha ?_) | (refine' aWq ?ha ?_) | (refine' aAr ?ha ?_) | ((first | refine' xAg (by decide) rfl rfl rfl rfl (fun w => ?hq) ?ha ?_ | refine' xAm (by decide) rfl rfl rfl rfl (fun w => ?hq) ?ha ?_ | refine' xAt (by decide) rfl rfl rfl (fun w => ?hq) ?ha ?_ | refine' xAl (by decide) rfl rfl rfl (fun w => ?hq) ?ha ?_ | refine' xBy (by decide) rfl rfl rfl (fun w => ?hq) ?ha ?_ | refine' xEx (by decide) rfl rfl rfl rfl (fun w => ?hq) ?ha ?_ | refine' xCq (by decide) rfl rfl rfl rfl rfl rfl (fun w => ?hq) ?ha ?_ | refine' xCr (by decide) rfl rfl (fun w => ?hq) ?ha ?_ | refine' xCn (by decide) rfl rfl rfl (fun w => ?hq) ?ha ?_ | refine' xDi (by decide) rfl rfl rfl (fun w => ?hq) ?ha ?_); (case hq => go_simp; try rfl)) | (refine' xAz (by decide) rfl rfl rfl ?ha ?_) | (refine' xBh (by decide) rfl rfl rfl rfl ?ha ?_) | (refine' xCe (by decide) rfl ?ha ?_) | (refine' xBk rfl rfl rfl (xAi Tryz.func42 (by kernel_rfl) (by kernel_rfl) _) (fun w => cS w) ?ha ?_)); try (case ha => simp only [kP, kQ, kA, kB]; try rfl))
        refine xAo (hK _ _ ?_)
        clear hK K
        try simp only [Act.put, kA, kB, List.setIfInBounds_toArray]
        refine f_at [8] (by decide +kernel) rfl ?_
        refine f_is 8 ?_
        refine f_new rfl rfl (xBv rfl rfl rfl) (fun p hp => by rw [List.mem_singleton.1 hp]; exact .head _) (fun bs => ?_) xCl
        simp only [Act.put, kA, kB, List.setIfInBounds_toArray]
        refine f_at [9] (by decide +kernel) rfl ?_
        refine f_is 9 ?_
        refine f_appN (x := X) (n := i) (f := shV1 q A) (v := sv) (b := bs) rfl rfl rfl rfl rfl rfl (perm_two _ _ _ _) (.head _) hx.out hvi.out hbig (fun p hp => by rw [List.mem_singleton.1 hp]; exact .tail _ (.head _)) (fun X' hX' => ?_) xCl
        simp only [Act.put, kA, kB, List.setIfInBounds_toArray]
        refine f_at [10] (by decide +kernel) rfl ?_
        refine f_is 10 ?_
        refine f_y rfl rfl (xAy rfl (.inl rfl) rfl) (fun p hp => List.mem_append_right _ (by rw [List.mem_singleton.1 hp]; exact .tail _ (.head _))) ?_ xCl
        simp only [Act.put, kA, kB, List.setIfInBounds_toArray]
        refine f_end (by decide +kernel) (fun w hR => ?_)
        simp only [Exit.then, Exit.inBlock]
        apply_assumption
        clear cS cM ldi
        go_wp2_with (first | (refine' aAq hR ?_; clear hR; intro blk w hR) | (refine' aBq hR ?_; clear hR; intro blk w hR) | (refine' aNq hR ?_) | (refine' aPq hR ?_) | (refine' aMq hR ?_) | (refine' aRq hR ?_; clear hR; intro w hR) | (refine' aUq hR ?_; clear hR; intro w hR) | fail)
        exact hK.out (i + 1, X') _ _ ⟨hi1.out, hX', hz1.out⟩ hmu.out (by simp only [ek.out]; exact xAf rfl rfl rfl) ((hR.permN (perm_two _ _ _ _).symm).weaken (List.sublist_cons_self _ _))
       ·have hcl : c < i := by omega
        have v1 : (c : Int) < (i : Int) := by omega
        have v2 : (c : Int) < (n : Int) := by omega
        have ldc := ld.out c (by omega)
        have ec : IntKind.i64.wrap ((c : Int) + 1) = (c : Int) + 1 := by rw [IntKind.wrap_i64]; omega
        have ekc : ((c + 1 : Nat) : Int) = (c : Int) + 1 := by omega
        by_cases hE : A c = ai
        ·obtain ⟨rfl, rfl⟩ := hdup.out ⟨c, hcl, hE⟩
         rw [hE] at ldc
         clear hK3 hd hc hci hgood hdup ld ldp hx hK hE
         repeat (first | (obtain ⟨x, tm', e, ht'⟩ := xAc ht; clear ht; subst e; have ht := ht'; clear ht') | (obtain ⟨tm', e, ht'⟩ := xAa ht; clear ht; subst e; have ht := ht'; clear ht'))
         obtain rfl := xAe ht
         clear ht
         go_wp2_with (first | (refine' aAq hR ?_; clear hR; intro blk w hR) | (refine' aBq hR ?_; clear hR; intro blk w hR) | (refine' aNq hR ?_) | (refine' aPq hR ?_) | (refine' aMq hR ?_) | (refine' aRq hR ?_; clear hR; intro w hR) | (refine' aUq hR ?_; clear hR; intro w hR) | fail)
         refine xAd hR [0, 0, 0, 0, 0, 0, 0, 0, 0] [] xBd (by kernel_rfl) rfl rfl (fun K hK => ?_)
         clear hR
         repeat ((first | (refine' xAn rfl rfl rfl (fun w hw => ldi _ w hw) ?ha ?_) | (refine' xAn rfl rfl rfl (fun w hw => ldc _ w hw) ?ha ?_) | (refine xAp ?_) | (refine' xAj (by decide) rfl (.inl rfl) rfl ?ha ?_) | (refine' xAj (by decide) rfl (.inr rfl) rfl ?ha ?_) | (refine' aOq ?ha ?_) | (refine' aSq ?ha ?_) | (refine' aXq ?ha ?_) | (refine' aWq ?ha ?_) | (refine' aAr ?ha ?_) | ((first | refine' xAg (by decide) rfl rfl rfl rfl (fun w => ?hq) ?ha ?_ | refine' xAm (by decide) rfl rfl rfl rfl (fun w => ?hq) ?ha ?_ | refine' xAt (by decide) rfl rfl rfl (fun w => ?hq) ?ha ?_ | refine' xAl (by decide) rfl rfl rfl (fun w => ?hq) ?ha ?_ | refine' xBy (by decide) rfl rfl rfl (fun w => ?hq) ?ha ?_ | refine' xEx (by decide) rfl rfl rfl rfl (fun w => ?hq) ?ha ?_ | refine' xCq (by decide) rfl rfl rfl rfl rfl rfl (fun w => ?hq) ?ha ?_ | refine' xCr (by decide) rfl rfl (fun w => ?hq) ?ha ?_ | refine' xCn (by decide) rfl rfl rfl (fun w => ?hq) ?ha ?_ | refine' xDi (by decide) rfl rfl rfl (fun w => ?hq) ?ha ?_); (case hq => go_simp; try rfl)) | (refine' xAz (by decide) rfl rfl rfl ?ha ?_) | (refine' xBh (by decide) rfl rfl rfl rfl ?ha ?_) | (refine' xCe (by decide) rfl ?ha ?_)); try (case ha => simp only [kP, kQ, kA, kB]; try rfl))
         refine xAo (hK _ _ ?_)
         clear hK K
         refine xAr (fun Q hQ => ?_)
         try simp only [List.nil_append, List.cons_append]
         repeat ((first | refine' xBf rfl (.inl rfl) rfl ?hk ?ha ?_ | refine' xBf rfl (.inr rfl) rfl ?hk ?ha ?_ | (refine' aTq ?hk ?ha ?_) | (refine' aEr ?hk ?ha ?_) | (refine' aFr ?hk ?ha ?_) | (refine' xHe rfl (fun w => ?hq) ?hk ?ha ?_; (case hq => go_simp; try rfl))); (case hk => intro p hp; first | exact absurd hp List.not_mem_nil | (obtain rfl := List.mem_singleton.1 hp; repeat (first | exact List.Mem.head _ | with_reducible assumption | apply mC))); (case ha => simp only [kP, kQ, kA, kB]; try rfl))
         refine xAs (fun w hR => hQ _ _ ?_)
         clear hQ Q
         go_wp2_with (first | (refine' aAq hR ?_; clear hR; intro blk w hR) | (refine' aBq hR ?_; clear hR; intro blk w hR) | (refine' aNq hR ?_) | (refine' aPq hR ?_) | (refine' aMq hR ?_) | (refine' aRq hR ?_; clear hR; intro w hR) | (refine' aUq hR ?_; clear hR; intro w hR) | fail)
         go_ret2
         exact ⟨⟨none, 0, []⟩, rfl, xBj _, hR.weaken ((List.sublist_append_right _ _).trans (List.sublist_cons_self _ _))⟩
        ·have hd1 : ∀ j, j < c + 1 → A j ≠ ai := fun j hj => if h4 : j = c then by rw [h4]; exact hE else hd j (by omega)
         have hc1 : c + 1 ≤ i := by omega
         have hmc : i - (c + 1) < i - c := by omega
         obtain ⟨ac, hac⟩ : ∃ x, A c = x := ⟨_, rfl⟩
         rw [hac] at ldc hE
         have q1 : (ac == ai) = false := by simp; exact hE
         replace hd1 := Held.mk hd1
         replace hc1 := Held.mk hc1
         replace hmc := Held.mk hmc
         replace ekc := Held.mk ekc
         clear hd hc hci hgood hdup ld ldp hx hK hac
         repeat (first | (obtain ⟨x, tm', e, ht'⟩ := xAc ht; clear ht; subst e; have ht := ht'; clear ht') | (obtain ⟨tm', e, ht'⟩ := xAa ht; clear ht; subst e; have ht := ht'; clear ht'))
         obtain rfl := xAe ht
         clear ht
         go_wp2_with (first | (refine' aAq hR ?_; clear hR; intro blk w hR) | (refine' aBq hR ?_; clear hR; intro blk w hR) | (refine' aNq hR ?_) | (refine' aPq hR ?_) | (refine' aMq hR ?_) | (refine' aRq hR ?_; clear hR; intro w hR) | (refine' aUq hR ?_; clear hR; intro w hR) | fail)
         refine xAd hR [0, 0, 0, 0, 0, 0, 0, 0, 0] [] xBd (by kernel_rfl) rfl rfl (fun K hK => ?_)
         clear hR
         repeat ((first | (refine' xAn rfl rfl rfl (fun w hw => ldi _ w hw) ?ha ?_) | (refine' xAn rfl rfl rfl (fun w hw => ldc _ w hw) ?ha ?_) | (refine xAp ?_) | (refine' xAj (by decide) rfl (.inl rfl) rfl ?ha ?_) | (refine' xAj (by decide) rfl (.inr rfl) rfl ?ha ?_) | (refine' aOq ?ha ?_) | (refine' aSq ?ha ?_) | (refine' aXq ?ha ?_) | (refine' aWq ?ha ?_) | (refine' aAr ?ha ?_) | ((first | refine' xAg (by decide) rfl rfl rfl rfl (fun w => ?hq) ?ha ?_ | refine' xAm (by decide) rfl rfl rfl rfl (fun w => ?hq) ?ha ?_ | refine' xAt (by decide) rfl rfl rfl (fun w => ?hq) ?ha ?_ | refine' xAl (by decide) rfl rfl rfl (fun w => ?hq) ?ha ?_ | refine' xBy (by decide) rfl rfl rfl (fun w => ?hq) ?ha ?_ | refine' xEx (by decide) rfl rfl rfl rfl (fun w => ?hq) ?ha ?_ | refine' xCq (by decide) rfl rfl rfl rfl rfl rfl (fun w => ?hq) ?ha ?_ | refine' xCr (by decide) rfl rfl (fun w => ?hq) ?ha ?_ | refine' xCn (by decide) rfl rfl rfl (fun w => ?hq) ?ha ?_ | refine' xDi (by decide) rfl rfl rfl (fun w => ?hq) ?ha ?_); (case hq => go_simp; try rfl)) | (refine' xAz (by decide) rfl rfl rfl ?ha ?_) | (refine' xBh (by decide) rfl rfl rfl rfl ?ha ?_) | (refine' xCe (by decide) rfl ?ha ?_)); try (case ha => simp only [kP, kQ, kA, kB]; try rfl))
         refine xAo (hK _ _ ?_)
         clear hK K
         refine xAr (fun Q hQ => ?_)
         try simp only [List.nil_append, List.cons_append]
         repeat ((first | refine' xBf rfl (.inl rfl) rfl ?hk ?ha ?_ | refine' xBf rfl (.inr rfl) rfl ?hk ?ha ?_ | (refine' aTq ?hk ?ha ?_) | (refine' aEr ?hk ?ha ?_) | (refine' aFr ?hk ?ha ?_) | (refine' xHe rfl (fun w => ?hq) ?hk ?ha ?_; (case hq => go_simp; try rfl))); (case hk => intro p hp; first | exact absurd hp List.not_mem_nil | (obtain rfl := List.mem_singleton.1 hp; repeat (first | exact List.Mem.head _ | with_reducible assumption | apply mC))); (case ha => simp only [kP, kQ, kA, kB]; try rfl))
         refine xAs (fun w hR => hQ _ _ ?_)
         clear hQ Q
         go_wp2_with (first | (refine' aAq hR ?_; clear hR; intro blk w hR) | (refine' aBq hR ?_; clear hR; intro blk w hR) | (refine' aNq hR ?_) | (refine' aPq hR ?_) | (refine' aMq hR ?_) | (refine' aRq hR ?_; clear hR; intro w hR) | (refine' aUq hR ?_; clear hR; intro w hR) | fail)
         exact hK3.out (c + 1) _ _ ⟨hc1.out, hd1.out⟩ hmc.out (by simp only [ekc.out]; exact xAf rfl rfl rfl) hR
     ·have cM := fun w : World => xKd (q := q) (g := g) (h := h) hp lp (decide_eq_false hm) w
      have hone : shE1 p A Pw i = 1 := by
       by_cases hb : shBad A i
       ·exact xHc hb
       ·rw [xHv hb, hpw, if_neg hm]
      obtain ⟨rfl, rfl⟩ := hstop1 hone
      generalize A i = ai at *
      clear hK hfin hstop h2' hx hz hA hP hxa hxp rlt ld hi hik hone hpw lp hm
      repeat (first | (obtain ⟨x, tm', e, ht'⟩ := xAc ht; clear ht; subst e; have ht := ht'; clear ht') | (obtain ⟨tm', e, ht'⟩ := xAa ht; clear ht; subst e; have ht := ht'; clear ht'))
      obtain rfl := xAe ht
      clear ht
      go_wp2_with (first | (refine' aAq hR ?_; clear hR; intro blk w hR) | (refine' aBq hR ?_; clear hR; intro blk w hR) | (refine' aNq hR ?_) | (refine' aPq hR ?_) | (refine' aMq hR ?_) | (refine' aRq hR ?_; clear hR; intro w hR) | (refine' aUq hR ?_; clear hR; intro w hR) | fail)
      refine xAd hR [0, 0, 0, 0, 0, 0, 0, 0, 0, 0, 0, 0, 0, 0, 0, 0, 0, 0, 0, 0, 0] [] xBd (by kernel_rfl) rfl rfl (fun K hK => ?_)
      clear hR
      repeat ((first | (refine' xAn rfl rfl rfl (fun w hw => ldi _ w hw) ?ha ?_) | (refine' xAn rfl rfl rfl (fun w hw => ldp _ w hw) ?ha ?_) | (refine xAp ?_) | (refine' xAj (by decide) rfl (.inl rfl) rfl ?ha ?_) | (refine' xAj (by decide) rfl (.inr rfl) rfl ?ha ?_) | (refine' aOq ?ha ?_) | (refine' aSq ?ha ?_) | (refine' aXq ?ha ?_) | (refine' aWq ?ha ?_) | (refine' aAr ?ha ?_) | ((first | refine' xAg (by decide) rfl rfl rfl rfl (fun w => ?hq) ?ha ?_ | refine' xAm (by decide) rfl rfl rfl rfl (fun w => ?hq) ?ha ?_ | refine' xAt (by decide) rfl rfl rfl (fun w => ?hq) ?ha ?_ | refine' xAl (by decide) rfl rfl rfl (fun w => ?hq) ?ha ?_ | refine' xBy (by decide) rfl rfl rfl (fun w => ?hq) ?ha ?_ | refine' xEx (by decide) rfl rfl rfl rfl (fun w => ?hq) ?ha ?_ | refine' xCq (by decide) rfl rfl rfl rfl rfl rfl (fun w => ?hq) ?ha ?_ | refine' xCr (by decide) rfl rfl (fun w => ?hq) ?ha ?_ | refine' xCn (by decide) rfl rfl rfl (fun w => ?hq) ?ha ?_ | refine' xDi (by decide) rfl rfl rfl (fun w => ?hq) ?ha ?_); (case hq => go_simp; try rfl)) | (refine' xAz (by decide) rfl rfl rfl ?ha ?_) | (refine' xBh (by decide) rfl rfl rfl rfl ?ha ?_) | (refine' xCe (by decide) rfl ?ha ?_) | (refine' xDy (by decide) rfl rfl rfl (fun w => ?hq) ?ha ?_; (case hq => go_simp; try rfl)) | (refine' xAk rfl rfl rfl (xAi Tryz.func112 (by kernel_rfl) (by kernel_rfl) _) (fun w => cM w) ?ha ?_)); try (case ha => simp only [kP, kQ, kA, kB]; try rfl))
      refine xAo (hK _ _ ?_)
      clear hK K
      refine xAr (fun Q hQ => ?_)
      try simp only [List.nil_append, List.cons_append]
      repeat ((first | refine' xBf rfl (.inl rfl) rfl ?hk ?ha ?_ | refine' xBf rfl (.inr rfl) rfl ?hk ?ha ?_ | (refine' aTq ?hk ?ha ?_) | (refine' aEr ?hk ?ha ?_) | (refine' aFr ?hk ?ha ?_) | (refine' xHe rfl (fun w => ?hq) ?hk ?ha ?_; (case hq => go_simp; try rfl))); (case hk => intro p hp; first | exact absurd hp List.not_mem_nil | (obtain rfl := List.mem_singleton.1 hp; repeat (first | exact List.Mem.head _ | with_reducible assumption | apply mC))); (case ha => simp only [kP, kQ, kA, kB]; try rfl))
      refine xAs (fun w hR => hQ _ _ ?_)
      clear hQ Q
      go_wp2_with (first | (refine' aAq hR ?_; clear hR; intro blk w hR) | (refine' aBq hR ?_; clear hR; intro blk w hR) | (refine' aNq hR ?_) | (refine' aPq hR ?_) | (refine' aMq hR ?_) | (refine' aRq hR ?_; clear hR; intro w hR) | (refine' aUq hR ?_; clear hR; intro w hR) | fail)
      go_ret2
      exact ⟨⟨none, 0, []⟩, rfl, xBj _, hR.weaken ((List.sublist_append_right _ _).trans (List.sublist_cons_self _ _))⟩
end
end Go.Proofs.YtaaahfjpnggkbaaGreatDoor
