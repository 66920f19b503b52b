import Derived.Test.YtaaahfjpnggkbaaGreatDoorHE
set_option linter.unusedSimpArgs false
set_option linter.unusedVariables false
set_option maxRecDepth 100000
set_option maxHeartbeats 20000000
namespace Go.Proofs.YtaaahfjpnggkbaaGreatDoor
open Go.RowKit
attribute [local irreducible] Calls Instr.build Instr.buildSlice Instr.makeSlice
noncomputable def errF (E : Nat → Int) : Nat → Int
 | 0 => 0
 | n + 1 => if errF E n = 0 then E n else errF E n
theorem errF_zero {E : Nat → Int} : ∀ {n : Nat}, errF E n = 0 → ∀ j, j < n → E j = 0
  | 0, _, j, hj => absurd hj (Nat.not_lt_zero _)
  | n + 1, h, j, hj => by
    unfold errF at h
    by_cases h0 : errF E n = 0
    · rw [if_pos h0] at h
      by_cases hjn : j = n
      · rw [hjn]; exact h
      · exact errF_zero h0 j (by omega)
    · rw [if_neg h0] at h
      exact absurd h h0
theorem xEr {E : Nat → Int} : ∀ {n : Nat}, (∀ j, j < n → E j = 0) → errF E n = 0
  | 0, _ => rfl
  | n + 1, h => by
    unfold errF
    rw [if_pos (xEr fun j hj => h j (by omega))]
    exact h n (by omega)
theorem xJt {E : Nat → Int} {n i : Nat} (hi : i < n) (h0 : ∀ j, j < i → E j = 0) (hE : E i ≠ 0) : errF E n = E i := by
 have h1 : errF E (i + 1) = E i := by unfold errF; rw [if_pos (xEr h0)]
 have key : ∀ m, errF E (i + 1 + m) = E i := by
  intro m
  induction m with
  | zero => exact h1
  | succ m ih =>
   show (if errF E (i + 1 + m) = 0 then E (i + 1 + m) else errF E (i + 1 + m)) = E i
   rw [ih, if_neg hE]
 have := key (n - (i + 1))
 rwa [Nat.add_sub_cancel' (by omega : i + 1 ≤ n)] at this
section
variable {B0 : Nat} {w0 w : World} {L : List (Nat × Obj)} {n p1 p2 p3 : Nat} {V : Nat → Nat} {E : Nat → Int}
theorem made_V (hn : n ≤ 1000) (hF : ∀ i, i < n → ∀ (M : List (Nat × Obj)) (w : World), Rep B0 w0 (M ++ L) w → Calls Tryz.prog 189 #[.int .i64 (i : Int), .pointer (some ⟨p1, 0, none⟩), .pointer (some ⟨p2, 0, none⟩), .pointer (some ⟨p3, 0, none⟩)] w fun e w' => e = .returned (.tuple #[num (V i), .int .i64 (E i)]) ∧ Rep B0 w0 (M ++ L) w') (hR : Rep B0 w0 L w) :
  Calls Tryz.prog 117 #[.int .i64 (n : Int), .func (.func 189) #[] #[.pointer (some ⟨p1, 0, none⟩), .pointer (some ⟨p2, 0, none⟩), .pointer (some ⟨p3, 0, none⟩)]] w fun e w' =>
   (errF E n = 0 ∧ ∃ x : GrN, e = .returned (.tuple #[.slice x.a n x.cap, .int .i64 0]) ∧ xCc x n V ∧ Rep B0 w0 (x.bl ++ L) w') ∨ (errF E n ≠ 0 ∧ e = .returned (.tuple #[.slice none 0 0, .int .i64 (errF E n)]) ∧ Rep B0 w0 L w') := by
 obtain ⟨l0, hl0, hmk⟩ := xHx n (by omega)
 replace hF := Held.mk hF
 go_enter Tryz.func117, Tryz.ntmps117
 go_wp2_with (refine' xCv hR rfl rfl rfl rfl hmk ?_; clear hR; intro blk w hR)
 try simp only [Act.put, kA, kB, List.setIfInBounds_toArray]
 refine' xAv (false :: false :: false :: false :: false :: false :: false :: true :: true :: true :: false :: false :: false :: false :: true :: true :: true :: true :: true :: true :: true :: true :: true :: true :: true :: true :: true :: true :: true :: true :: false :: []) (fun (x : Nat × GrN) l => (l.set 6 (.slice x.2.a x.1 x.2.cap)).set 13 (.int .i64 (x.1 : Int))) (fun x => x.2.bl ++ L) (fun x => n - x.1) (fun x => x.1 ≤ n ∧ xCc x.2 x.1 V ∧ ∀ j, j < x.1 → E j = 0) (0, ⟨some ⟨blk, 0, none⟩, n, [(blk, .cells l0.toArray 24)]⟩) ?h0 ?hO ?hR ?hs
 case h0 => exact xAf rfl rfl rfl
 case hO => exact ⟨Nat.zero_le _, .inr ⟨blk, l0, rfl, rfl, Nat.zero_le _, by show n ≤ maxLen; unfold maxLen; omega, hl0, rfl⟩, fun j hj => absurd hj (Nat.not_lt_zero _)⟩
 case hR => exact hR
 case hs =>
  clear hR hl0 hmk
  intro x tm w hO ht hR K hK
  obtain ⟨i, X⟩ := x
  obtain ⟨hi, hx, hz⟩ := hO
  simp only at hi hx hz ht hR
  have g0 : 0 ≤ (i : Int) := by omega
  by_cases hik : i = n
  ·rw [hik] at hx hz ht
   have t1 : ¬ (n : Int) < (n : Int) := by omega
   have hE0 := xEr hz
   replace hE0 := Held.mk hE0
   replace hx := Held.mk hx
   clear hK hz hik hi g0 hF i
   repeat (first | (obtain ⟨x, tm', e, ht'⟩ := xAc ht; clear ht; subst e; have ht := ht'; clear ht') | (obtain ⟨tm', e, ht'⟩ := xAa ht; clear ht; subst e; have ht := ht'; clear ht'))
   obtain rfl := xAe ht
   clear ht
   go_wp2_with (fail)
   go_ret2
   exact .inl ⟨hE0.out, X, rfl, hx.out, hR⟩
  ·have hin : i < n := by omega
   have g1 : (i : Int) < (n : Int) := by omega
   have cf := fun (w : World) (hw : Rep B0 w0 (X.bl ++ L) w) => hF.out i hin X.bl w hw
   by_cases hE : E i = 0
   ·rw [hE] at cf
    have hz1 : ∀ j, j < i + 1 → E j = 0 := fun j hj => if h : j = i then h ▸ hE else hz j (by omega)
    have ei : IntKind.i64.wrap ((i : Int) + 1) = (i : Int) + 1 := by rw [IntKind.wrap_i64]; omega
    have ek : ((i + 1 : Nat) : Int) = (i : Int) + 1 := by omega
    have hbig : i ≤ 1000000 := by omega
    have hi1 : i + 1 ≤ n := by omega
    have hmu : n - (i + 1) < n - i := by omega
    obtain ⟨v, hv⟩ : ∃ v, V i = v := ⟨_, rfl⟩
    rw [hv] at cf
    replace ek := Held.mk ek
    replace hi1 := Held.mk hi1
    replace hmu := Held.mk hmu
    replace hz1 := Held.mk hz1
    replace hv := Held.mk hv
    clear hF hz hE hi hik
    repeat (first | (obtain ⟨x, tm', e, ht'⟩ := xAc ht; clear ht; subst e; have ht := ht'; clear ht') | (obtain ⟨tm', e, ht'⟩ := xAa ht; clear ht; subst e; have ht := ht'; clear ht'))
    obtain rfl := xAe ht
    clear ht
    go_wp2_with (first | (refine' aBq hR ?_; clear hR; intro blk w hR) | (refine' aNq hR ?_) | (refine' aRq hR ?_; clear hR; intro w hR) | (go_at_call 189; refine (cf _ hR).mono ?_; clear hR; rintro e w ⟨rfl, hR⟩) | (refine' xBz hR (xBv rfl rfl rfl) ?_; clear hR; intro bt w hR) | (refine' xBp (L' := fun l => (blk, .cells (nl v).toArray 24) :: (l ++ L)) hR (fun l => List.perm_middle.symm) rfl rfl rfl rfl hx hv.out hbig ?_; clear hR hx; intro x' w hx hR))
    exact hK.out (i + 1, x') _ _ ⟨hi1.out, hx, hz1.out⟩ hmu.out (by simp only [ek.out]; exact xAf rfl rfl rfl) (hR.weaken (List.sublist_cons_self _ _))
   ·have he := xJt hin hz hE
    have c1 : (E i == 0) = false := by simp; exact hE
    have c2 : (E i != 0) = true := by simp; exact hE
    have hE1 : errF E n ≠ 0 := by rw [he]; exact hE
    replace hE1 := Held.mk hE1
    generalize E i = ei at *
    replace he := Held.mk he
    clear hF hz hi hik hK hx
    repeat (first | (obtain ⟨x, tm', e, ht'⟩ := xAc ht; clear ht; subst e; have ht := ht'; clear ht') | (obtain ⟨tm', e, ht'⟩ := xAa ht; clear ht; subst e; have ht := ht'; clear ht'))
    obtain rfl := xAe ht
    clear ht
    go_wp2_with (first | (refine' aBq hR ?_; clear hR; intro blk w hR) | (refine' aRq hR ?_; clear hR; intro w hR) | (go_at_call 189; refine (cf _ hR).mono ?_; clear hR; rintro e w ⟨rfl, hR⟩))
    go_ret2
    exact .inr ⟨hE1.out, by rw [he.out]; rfl, (hR.weaken ((List.sublist_append_right _ _).trans (List.sublist_cons_self _ _)))⟩
theorem made_R1 (hn : n ≤ 1000) (hF : ∀ i, i < n → ∀ (M : List (Nat × Obj)) (w : World), Rep B0 w0 (M ++ L) w → Calls Tryz.prog 118 #[.int .i64 (i : Int), .pointer (some ⟨p1, 0, none⟩), .pointer (some ⟨p2, 0, none⟩), .pointer (some ⟨p3, 0, none⟩)] w fun e w' => e = .returned (.tuple #[num (V i), .int .i64 (E i)]) ∧ Rep B0 w0 (M ++ L) w') (hR : Rep B0 w0 L w) :
  Calls Tryz.prog 117 #[.int .i64 (n : Int), .func (.func 118) #[] #[.pointer (some ⟨p1, 0, none⟩), .pointer (some ⟨p2, 0, none⟩), .pointer (some ⟨p3, 0, none⟩)]] w fun e w' =>
   (errF E n = 0 ∧ ∃ x : GrN, e = .returned (.tuple #[.slice x.a n x.cap, .int .i64 0]) ∧ xCc x n V ∧ Rep B0 w0 (x.bl ++ L) w') ∨ (errF E n ≠ 0 ∧ e = .returned (.tuple #[.slice none 0 0, .int .i64 (errF E n)]) ∧ Rep B0 w0 L w') := by
 obtain ⟨l0, hl0, hmk⟩ := xHx n (by omega)
 replace hF := Held.mk hF
 go_enter Tryz.func117, Tryz.ntmps117
 go_wp2_with (refine' xCv hR rfl rfl rfl rfl hmk ?_; clear hR; intro blk w hR)
 try simp only [Act.put, kA, kB, List.setIfInBounds_toArray]
 refine' xAv (false :: false :: false :: false :: false :: false :: false :: true :: true :: true :: false :: false :: false :: false :: true :: true :: true :: true :: true :: true :: true :: true :: true :: true :: true :: true :: true :: true :: true :: true :: false :: []) (fun (x : Nat × GrN) l => (l.set 6 (.slice x.2.a x.1 x.2.cap)).set 13 (.int .i64 (x.1 : Int))) (fun x => x.2.bl ++ L) (fun x => n - x.1) (fun x => x.1 ≤ n ∧ xCc x.2 x.1 V ∧ ∀ j, j < x.1 → E j = 0) (0, ⟨some ⟨blk, 0, none⟩, n, [(blk, .cells l0.toArray 24)]⟩) ?h0 ?hO ?hR ?hs
 case h0 => exact xAf rfl rfl rfl
 case hO => exact ⟨Nat.zero_le _, .inr ⟨blk, l0, rfl, rfl, Nat.zero_le _, by show n ≤ maxLen; unfold maxLen; omega, hl0, rfl⟩, fun j hj => absurd hj (Nat.not_lt_zero _)⟩
 case hR => exact hR
 case hs =>
  clear hR hl0 hmk
  intro x tm w hO ht hR K hK
  obtain ⟨i, X⟩ := x
  obtain ⟨hi, hx, hz⟩ := hO
  simp only at hi hx hz ht hR
  have g0 : 0 ≤ (i : Int) := by omega
  by_cases hik : i = n
  ·rw [hik] at hx hz ht
   have t1 : ¬ (n : Int) < (n : Int) := by omega
   have hE0 := xEr hz
   replace hE0 := Held.mk hE0
   replace hx := Held.mk hx
   clear hK hz hik hi g0 hF i
   repeat (first | (obtain ⟨x, tm', e, ht'⟩ := xAc ht; clear ht; subst e; have ht := ht'; clear ht') | (obtain ⟨tm', e, ht'⟩ := xAa ht; clear ht; subst e; have ht := ht'; clear ht'))
   obtain rfl := xAe ht
   clear ht
   go_wp2_with (fail)
   go_ret2
   exact .inl ⟨hE0.out, X, rfl, hx.out, hR⟩
  ·have hin : i < n := by omega
   have g1 : (i : Int) < (n : Int) := by omega
   have cf := fun (w : World) (hw : Rep B0 w0 (X.bl ++ L) w) => hF.out i hin X.bl w hw
   by_cases hE : E i = 0
   ·rw [hE] at cf
    have hz1 : ∀ j, j < i + 1 → E j = 0 := fun j hj => if h : j = i then h ▸ hE else hz j (by omega)
    have ei : IntKind.i64.wrap ((i : Int) + 1) = (i : Int) + 1 := by rw [IntKind.wrap_i64]; omega
    have ek : ((i + 1 : Nat) : Int) = (i : Int) + 1 := by omega
    have hbig : i ≤ 1000000 := by omega
    have hi1 : i + 1 ≤ n := by omega
    have hmu : n - (i + 1) < n - i := by omega
    obtain ⟨v, hv⟩ : ∃ v, V i = v := ⟨_, rfl⟩
    rw [hv] at cf
    replace ek := Held.mk ek
    replace hi1 := Held.mk hi1
    replace hmu := Held.mk hmu
    replace hz1 := Held.mk hz1
    replace hv := Held.mk hv
    clear hF hz hE hi hik
    repeat (first | (obtain ⟨x, tm', e, ht'⟩ := xAc ht; clear ht; subst e; have ht := ht'; clear ht') | (obtain ⟨tm', e, ht'⟩ := xAa ht; clear ht; subst e; have ht := ht'; clear ht'))
    obtain rfl := xAe ht
    clear ht
    go_wp2_with (first | (refine' aBq hR ?_; clear hR; intro blk w hR) | (refine' aNq hR ?_) | (refine' aRq hR ?_; clear hR; intro w hR) | (go_at_call 118; refine (cf _ hR).mono ?_; clear hR; rintro e w ⟨rfl, hR⟩) | (refine' xBz hR (xBv rfl rfl rfl) ?_; clear hR; intro bt w hR) | (refine' xBp (L' := fun l => (blk, .cells (nl v).toArray 24) :: (l ++ L)) hR (fun l => List.perm_middle.symm) rfl rfl rfl rfl hx hv.out hbig ?_; clear hR hx; intro x' w hx hR))
    exact hK.out (i + 1, x') _ _ ⟨hi1.out, hx, hz1.out⟩ hmu.out (by simp only [ek.out]; exact xAf rfl rfl rfl) (hR.weaken (List.sublist_cons_self _ _))
   ·have he := xJt hin hz hE
    have c1 : (E i == 0) = false := by simp; exact hE
    have c2 : (E i != 0) = true := by simp; exact hE
    have hE1 : errF E n ≠ 0 := by rw [he]; exact hE
    replace hE1 := Held.mk hE1
    generalize E i = ei at *
    replace he := Held.mk he
    clear hF hz hi hik hK hx
    repeat (first | (obtain ⟨x, tm', e, ht'⟩ := xAc ht; clear ht; subst e; have ht := ht'; clear ht') | (obtain ⟨tm', e, ht'⟩ := xAa ht; clear ht; subst e; have ht := ht'; clear ht'))
    obtain rfl := xAe ht
    clear ht
    go_wp2_with (first | (refine' aBq hR ?_; clear hR; intro blk w hR) | (refine' aRq hR ?_; clear hR; intro w hR) | (go_at_call 118; refine (cf _ hR).mono ?_; clear hR; rintro e w ⟨rfl, hR⟩))
    go_ret2
    exact .inr ⟨hE1.out, by rw [he.out]; rfl, (hR.weaken ((List.sublist_append_right _ _).trans (List.sublist_cons_self _ _)))⟩
theorem made_R2 (hn : n ≤ 1000) (hF : ∀ i, i < n → ∀ (M : List (Nat × Obj)) (w : World), Rep B0 w0 (M ++ L) w → Calls Tryz.prog 120 #[.int .i64 (i : Int), .pointer (some ⟨p1, 0, none⟩), .pointer (some ⟨p2, 0, none⟩), .pointer (some ⟨p3, 0, none⟩)] w fun e w' => e = .returned (.tuple #[num (V i), .int .i64 (E i)]) ∧ Rep B0 w0 (M ++ L) w') (hR : Rep B0 w0 L w) :
  Calls Tryz.prog 117 #[.int .i64 (n : Int), .func (.func 120) #[] #[.pointer (some ⟨p1, 0, none⟩), .pointer (some ⟨p2, 0, none⟩), .pointer (some ⟨p3, 0, none⟩)]] w fun e w' =>
   (errF E n = 0 ∧ ∃ x : GrN, e = .returned (.tuple #[.slice x.a n x.cap, .int .i64 0]) ∧ xCc x n V ∧ Rep B0 w0 (x.bl ++ L) w') ∨ (errF E n ≠ 0 ∧ e = .returned (.tuple #[.slice none 0 0, .int .i64 (errF E n)]) ∧ Rep B0 w0 L w') := by
 obtain ⟨l0, hl0, hmk⟩ := xHx n (by omega)
 replace hF := Held.mk hF
 go_enter Tryz.func117, Tryz.ntmps117
 go_wp2_with (refine' xCv hR rfl rfl rfl rfl hmk ?_; clear hR; intro blk w hR)
 try simp only [Act.put, kA, kB, List.setIfInBounds_toArray]
 refine' xAv (false :: false :: false :: false :: false :: false :: false :: true :: true :: true :: false :: false :: false :: false :: true :: true :: true :: true :: true :: true :: true :: true :: true :: true :: true :: true :: true :: true :: true :: true :: false :: []) (fun (x : Nat × GrN) l => (l.set 6 (.slice x.2.a x.1 x.2.cap)).set 13 (.int .i64 (x.1 : Int))) (fun x => x.2.bl ++ L) (fun x => n - x.1) (fun x => x.1 ≤ n ∧ xCc x.2 x.1 V ∧ ∀ j, j < x.1 → E j = 0) (0, ⟨some ⟨blk, 0, none⟩, n, [(blk, .cells l0.toArray 24)]⟩) ?h0 ?hO ?hR ?hs
 case h0 => exact xAf rfl rfl rfl
 case hO => exact ⟨Nat.zero_le _, .inr ⟨blk, l0, rfl, rfl, Nat.zero_le _, by show n ≤ maxLen; unfold maxLen; omega, hl0, rfl⟩, fun j hj => absurd hj (Nat.not_lt_zero _)⟩
 case hR => exact hR
 case hs =>
  clear hR hl0 hmk
  intro x tm w hO ht hR K hK
  obtain ⟨i, X⟩ := x
  obtain ⟨hi, hx, hz⟩ := hO
  simp only at hi hx hz ht hR
  have g0 : 0 ≤ (i : Int) := by omega
  by_cases hik : i = n
  ·rw [hik] at hx hz ht
   have t1 : ¬ (n : Int) < (n : Int) := by omega
   have hE0 := xEr hz
   replace hE0 := Held.mk hE0
   replace hx := Held.mk hx
   clear hK hz hik hi g0 hF i
   repeat (first | (obtain ⟨x, tm', e, ht'⟩ := xAc ht; clear ht; subst e; have ht := ht'; clear ht') | (obtain ⟨tm', e, ht'⟩ := xAa ht; clear ht; subst e; have ht := ht'; clear ht'))
   obtain rfl := xAe ht
   clear ht
   go_wp2_with (fail)
   go_ret2
   exact .inl ⟨hE0.out, X, rfl, hx.out, hR⟩
  ·have hin : i < n := by omega
   have g1 : (i : Int) < (n : Int) := by omega
   have cf := fun (w : World) (hw : Rep B0 w0 (X.bl ++ L) w) => hF.out i hin X.bl w hw
   by_cases hE : E i = 0
   ·rw [hE] at cf
    have hz1 : ∀ j, j < i + 1 → E j = 0 := fun j hj => if h : j = i then h ▸ hE else hz j (by omega)
    have ei : IntKind.i64.wrap ((i : Int) + 1) = (i : Int) + 1 := by rw [IntKind.wrap_i64]; omega
    have ek : ((i + 1 : Nat) : Int) = (i : Int) + 1 := by omega
    have hbig : i ≤ 1000000 := by omega
    have hi1 : i + 1 ≤ n := by omega
    have hmu : n - (i + 1) < n - i := by omega
    obtain ⟨v, hv⟩ : ∃ v, V i = v := ⟨_, rfl⟩
    rw [hv] at cf
    replace ek := Held.mk ek
    replace hi1 := Held.mk hi1
    replace hmu := Held.mk hmu
    replace hz1 := Held.mk hz1
    replace hv := Held.mk hv
    clear hF hz hE hi hik
    repeat (first | (obtain ⟨x, tm', e, ht'⟩ := xAc ht; clear ht; subst e; have ht := ht'; clear ht') | (obtain ⟨tm', e, ht'⟩ := xAa ht; clear ht; subst e; have ht := ht'; clear ht'))
    obtain rfl := xAe ht
    clear ht
    go_wp2_with (first | (refine' aBq hR ?_; clear hR; intro blk w hR) | (refine' aNq hR ?_) | (refine' aRq hR ?_; clear hR; intro w hR) | (go_at_call 120; refine (cf _ hR).mono ?_; clear hR; rintro e w ⟨rfl, hR⟩) | (refine' xBz hR (xBv rfl rfl rfl) ?_; clear hR; intro bt w hR) | (refine' xBp (L' := fun l => (blk, .cells (nl v).toArray 24) :: (l ++ L)) hR (fun l => List.perm_middle.symm) rfl rfl rfl rfl hx hv.out hbig ?_; clear hR hx; intro x' w hx hR))
    exact hK.out (i + 1, x') _ _ ⟨hi1.out, hx, hz1.out⟩ hmu.out (by simp only [ek.out]; exact xAf rfl rfl rfl) (hR.weaken (List.sublist_cons_self _ _))
   ·have he := xJt hin hz hE
    have c1 : (E i == 0) = false := by simp; exact hE
    have c2 : (E i != 0) = true := by simp; exact hE
    have hE1 : errF E n ≠ 0 := by rw [he]; exact hE
    replace hE1 := Held.mk hE1
    generalize E i = ei at *
    replace he := Held.mk he
    clear hF hz hi hik hK hx
    repeat (first | (obtain ⟨x, tm', e, ht'⟩ := xAc ht; clear ht; subst e; have ht := ht'; clear ht') | (obtain ⟨tm', e, ht'⟩ := xAa ht; clear ht; subst e; have ht := ht'; clear ht'))
    obtain rfl := xAe ht
    clear ht
    go_wp2_with (first | (refine' aBq hR ?_; clear hR; intro blk w hR) | (refine' aRq hR ?_; clear hR; intro w hR) | (go_at_call 120; refine (cf _ hR).mono ?_; clear hR; rintro e w ⟨rfl, hR⟩))
    go_ret2
    exact .inr ⟨hE1.out, by rw [he.out]; rfl, (hR.weaken ((List.sublist_append_right _ _).trans (List.sublist_cons_self _ _)))⟩
end
end Go.Proofs.YtaaahfjpnggkbaaGreatDoor
