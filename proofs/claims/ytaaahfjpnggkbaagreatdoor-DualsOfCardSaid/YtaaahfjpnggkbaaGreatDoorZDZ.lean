import Derived.Test.YtaaahfjpnggkbaaGreatDoorZRC
import Derived.Test.YtaaahfjpnggkbaaGreatDoorZDV
import Derived.Test.YtaaahfjpnggkbaaGreatDoorZBD
set_option linter.unusedSimpArgs false
set_option linter.unusedVariables false
set_option maxRecDepth 100000
set_option maxHeartbeats 20000000
namespace Go.Proofs.YtaaahfjpnggkbaaGreatDoor
open Go.RowKit
attribute [local irreducible] Calls Instr.build Instr.buildSlice
def difTo (q n i : Nat) : Prop := ∀ s k, s < i → k < n → s ≠ k → Nat.gcd (sOf q ((s : Int) - (k : Int))) q = 1
def difAt (q i k : Nat) : Prop := ∀ t, t < k → i ≠ t → Nat.gcd (sOf q ((i : Int) - (t : Int))) q = 1
theorem difTo_next {q n i : Nat} (h1 : difTo q n i) (h2 : difAt q i n) : difTo q n (i + 1) := fun s k hs hk hsk => by
 by_cases e : s = i
 ·rw [e] at hsk ⊢; exact h2 k hk hsk
 ·exact h1 s k (by omega) hk hsk
theorem difAt_next {q i k : Nat} (h1 : difAt q i k) (h2 : i ≠ k → Nat.gcd (sOf q ((i : Int) - (k : Int))) q = 1) : difAt q i (k + 1) := fun t ht hit => by
 by_cases e : t = k
 ·rw [e] at hit ⊢; exact h2 hit
 ·exact h1 t (by omega) hit
theorem difTo_all {q n : Nat} (h : difTo q n n) : difOK q n := fun s k hs hk hsk => h s k hs hk hsk
section
variable {p q g h : Nat} {B0 : Nat} {w0 w : World} {L : List (Nat × Obj)} {a : Option Addr} {n len cp : Nat} {P : Nat → Nat}
theorem rword_bad (m : Int) (hbad : m < 1 ∨ 7 < m ∨ m ≤ (len : Int)) (hR : Rep B0 w0 L w) : Calls Tryz.prog 19 #[grp p q g h, .int .i64 m, .slice a len cp] w fun e w' => e = .returned (.tuple #[.slice none 0 0, .int .i64 1]) ∧ Rep B0 w0 L w' := by
 by_cases c1 : m < 1
 ·have d1 : decide (m < 1) = true := decide_eq_true c1
  clear hbad
  go_enter Tryz.func19, Tryz.ntmps19
  go_wp2_with (first | go_skip | (refine' aAq hR ?_; clear hR; intro blk w hR) | (refine' aBq hR ?_; clear hR; intro blk w hR) | (refine' aPq hR ?_) | (refine' aQq hR ?_) | (refine' aRq hR ?_) | (refine' aZq hR ?_; clear hR; intro w hR) | (refine' aAr hR ?_; clear hR; intro w hR) | (refine' aEr hR ?_) | (refine' aFr hR ?_) | (refine' aHr hR ?_) | fail)
  go_ret2
  exact ⟨rfl, hR.drop1⟩
 have d1 : decide (m < 1) = false := decide_eq_false c1
 by_cases c2 : 7 < m
 ·have d2 : decide (7 < m) = true := decide_eq_true c2
  clear hbad
  go_enter Tryz.func19, Tryz.ntmps19
  go_wp2_with (first | go_skip | (refine' aAq hR ?_; clear hR; intro blk w hR) | (refine' aBq hR ?_; clear hR; intro blk w hR) | (refine' aPq hR ?_) | (refine' aQq hR ?_) | (refine' aRq hR ?_) | (refine' aZq hR ?_; clear hR; intro w hR) | (refine' aAr hR ?_; clear hR; intro w hR) | (refine' aEr hR ?_) | (refine' aFr hR ?_) | (refine' aHr hR ?_) | fail)
  go_ret2
  exact ⟨rfl, hR.drop1⟩
 have d2 : decide (7 < m) = false := decide_eq_false c2
 have c3 : m ≤ (len : Int) := by omega
 have d3 : decide (m ≤ (len : Int)) = true := decide_eq_true c3
 clear hbad
 go_enter Tryz.func19, Tryz.ntmps19
 go_wp2_with (first | go_skip | (refine' aAq hR ?_; clear hR; intro blk w hR) | (refine' aBq hR ?_; clear hR; intro blk w hR) | (refine' aPq hR ?_) | (refine' aQq hR ?_) | (refine' aRq hR ?_) | (refine' aZq hR ?_; clear hR; intro w hR) | (refine' aAr hR ?_; clear hR; intro w hR) | (refine' aEr hR ?_) | (refine' aFr hR ?_) | (refine' aHr hR ?_) | fail)
 go_ret2
 exact ⟨rfl, hR.drop1⟩
theorem rword_arg (hq : q < B) (hA : NAt B0 w0 L a len cp P) (hl : len ≤ 1000) (hn1 : 1 ≤ n) (hn7 : n ≤ 7) (hln : len < n) (hno : ¬ (1 < q ∧ ∀ j, j < len → P j < q)) (hR : Rep B0 w0 L w) :
  Calls Tryz.prog 19 #[grp p q g h, .int .i64 (n : Int), .slice a len cp] w fun e w' => e = .returned (.tuple #[.slice none 0 0, .int .i64 1]) ∧ Rep B0 w0 L w' := by
 have d1 : decide ((n : Int) < 1) = false := decide_eq_false (by omega)
 have d1' : ¬ (n : Int) < 1 := by omega
 have d2 : decide (7 < (n : Int)) = false := decide_eq_false (by omega)
 have d2' : ¬ 7 < (n : Int) := by omega
 have d3 : decide ((n : Int) ≤ (len : Int)) = false := decide_eq_false (by omega)
 have d3' : ¬ (n : Int) ≤ (len : Int) := by omega
 have cl := fun (o : Nat × Obj) (w : World) (hw : Rep B0 w0 (o :: L) w) => rall_any (p := p) (g := g) (h := h) hq (hA.mono fun w hw => hw.drop1) (by omega) false ⟨fun hh => (nomatch hh), fun hh => absurd hh hno⟩ hw
 clear hA hno
 go_enter Tryz.func19, Tryz.ntmps19
 go_wp2_with (first | go_skip | (refine' aAq hR ?_; clear hR; intro blk w hR) | (refine' aBq hR ?_; clear hR; intro blk w hR) | (refine' aPq hR ?_) | (refine' aQq hR ?_) | (refine' aRq hR ?_) | (refine' aZq hR ?_; clear hR; intro w hR) | (refine' aAr hR ?_; clear hR; intro w hR) | (refine' aEr hR ?_) | (refine' aFr hR ?_) | (refine' aHr hR ?_) | (go_at_call 40; refine (cl _ _ hR).mono ?_; clear hR; rintro e w ⟨rfl, hR⟩))
 go_ret2
 exact ⟨rfl, hR.drop1⟩
theorem rword_go (hq : q < B) (h1 : 1 < q) (hA : NAt B0 w0 L a len cp P) (hP : ∀ j, j < len → P j < q) (hl : len ≤ 1000) (hn1 : 1 ≤ n) (hn7 : n ≤ 7) (hln : len < n) (hR : Rep B0 w0 L w) :
  Calls Tryz.prog 19 #[grp p q g h, .int .i64 (n : Int), .slice a len cp] w fun e w' => (difOK q n ∧ ∃ X : GrN, e = .returned (.tuple #[.slice X.a n X.cap, .int .i64 0]) ∧ GrNOk X n (xFg q n len P) ∧ Rep B0 w0 (X.bl ++ L) w') ∨ (¬ difOK q n ∧ e = .returned (.tuple #[.slice none 0 0, .int .i64 7]) ∧ Rep B0 w0 L w') := by
 have d1 : decide ((n : Int) < 1) = false := decide_eq_false (by omega)
 have d1' : ¬ (n : Int) < 1 := by omega
 have d2 : decide (7 < (n : Int)) = false := decide_eq_false (by omega)
 have d2' : ¬ 7 < (n : Int) := by omega
 have d3 : decide ((n : Int) ≤ (len : Int)) = false := decide_eq_false (by omega)
 have d3' : ¬ (n : Int) ≤ (len : Int) := by omega
 have cl := fun (o : Nat × Obj) (w : World) (hw : Rep B0 w0 (o :: L) w) => rall_any (p := p) (g := g) (h := h) hq (hA.mono fun w hw => hw.drop1) (by omega) true ⟨fun _ => ⟨h1, hP⟩, fun _ => rfl⟩ hw
 have hLw : ∀ (E L' : List (Nat × Obj)) (w : World), Rep B0 w0 (E ++ (L' ++ L)) w → Rep B0 w0 L w := fun E L' w hw => hw.weaken ((List.sublist_append_right _ _).trans (List.sublist_append_right _ _))
 replace hA := Held.mk hA
 replace hP := Held.mk hP
 replace hLw := Held.mk hLw
 go_enter Tryz.func19, Tryz.ntmps19
 go_wp2_with (first | go_skip | (refine' aAq hR ?_; clear hR; intro blk w hR) | (refine' aBq hR ?_; clear hR; intro blk w hR) | (refine' aPq hR ?_) | (refine' aQq hR ?_) | (refine' aRq hR ?_) | (refine' aZq hR ?_; clear hR; intro w hR) | (refine' aAr hR ?_; clear hR; intro w hR) | (refine' aEr hR ?_) | (refine' aFr hR ?_) | (refine' aHr hR ?_) | (go_at_call 40; refine (cl _ _ hR).mono ?_; clear hR; rintro e w ⟨rfl, hR⟩))
 clear cl d1 d1' d2 d2' d3 d3'
 obtain ⟨b3, hb3⟩ : ∃ z, z = blk := ⟨_, rfl⟩
 subst hb3
 try simp only [Act.put, kA, kB, List.setIfInBounds_toArray]
 refine' xBh (false :: false :: false :: false :: false :: false :: false :: false :: false :: false :: true :: true :: true :: true :: true :: false :: false :: false :: false :: false :: false :: false :: false :: false :: false :: false :: false :: false :: false :: false :: false :: false :: false :: true :: true :: true :: true :: true :: true :: true :: true :: true :: true :: true :: true :: true :: true :: true :: true :: true :: true :: true :: true :: true :: true :: true :: true :: true :: true :: true :: true :: true :: true :: true :: true :: true :: true :: true :: true :: true :: true :: true :: true :: true :: true :: true :: true :: true :: true :: []) (fun (v : Nat × GrN) l => (l.set 8 (.slice v.2.a v.1 v.2.cap)).set 9 (.int .i64 ((v.1 : Int) + 1))) (fun v => (b3, .cells (gl p q g h).toArray 26) :: (v.2.bl ++ L)) (fun v => n - v.1) (fun v => v.1 ≤ n ∧ difTo q n v.1 ∧ GrNOk v.2 v.1 (xFg q n len P)) (0, ⟨none, 0, []⟩) ?h0 ?hO ?hR ?hs
 case h0 => exact xAn rfl rfl rfl
 case hO => exact ⟨Nat.zero_le _, fun s k hs => absurd hs (Nat.not_lt_zero s), xFp _⟩
 case hR => exact hR
 case hs =>
  clear hR
  intro v tm w hO ht hR K hK
  obtain ⟨i, X⟩ := v
  obtain ⟨hi, hall, hX⟩ := hO
  simp only at hi hall hX ht hR
  replace hall := Held.mk hall
  replace hX := Held.mk hX
  have g0 : 0 ≤ (i : Int) := by omega
  by_cases hik : i = n
  ·subst hik
   have t1 : ¬ (i : Int) + 1 ≤ (i : Int) := by omega
   clear hK hi hA hP
   repeat (first | (obtain ⟨x, tm', e, ht'⟩ := xAg ht; clear ht; subst e; have ht := ht'; clear ht') | (obtain ⟨tm', e, ht'⟩ := xAd ht; clear ht; subst e; have ht := ht'; clear ht'))
   obtain rfl := xAl ht
   clear ht
   go_wp2_with (first | go_skip | (refine' aAq hR ?_; clear hR; intro blk w hR) | (refine' aBq hR ?_; clear hR; intro blk w hR) | (refine' aPq hR ?_) | (refine' aQq hR ?_) | (refine' aRq hR ?_) | (refine' aZq hR ?_; clear hR; intro w hR) | (refine' aAr hR ?_; clear hR; intro w hR) | (refine' aEr hR ?_) | (refine' aFr hR ?_) | (refine' aHr hR ?_) | fail)
   go_ret2
   exact .inl ⟨difTo_all hall.out, X, rfl, hX.out, hR.drop1⟩
  have hin : i < n := by omega
  have t1 : (i : Int) + 1 ≤ (n : Int) := by omega
  have ei : IntKind.i64.wrap ((i : Int) + 1 + 1) = ((i + 1 : Nat) : Int) + 1 := by rw [IntKind.wrap_i64]; omega
  have hi1 : i + 1 ≤ n := by omega
  have hmu : n - (i + 1) < n - i := by omega
  obtain ⟨x0, hx0⟩ : ∃ z, ptF q i = z := ⟨_, rfl⟩
  have lx0 : x0 < q := by rw [← hx0]; exact ptF_lt h1 i
  obtain ⟨c0, hc0⟩ : ∃ z, atN q P len x0 = z := ⟨_, rfl⟩
  have lc0 : c0 < q := by rw [← hc0]; exact atN_lt h1 _ _ _
  have ec0 : c0F q len P i = c0 := by rw [c0F, hx0, hc0]
  have era : raS q P x0 len = c0 := by
   rw [← hc0]
   have hq0 : 0 < q := by omega
   haveI : NeZero q := ⟨by omega⟩
   unfold atN
   rw [dif_pos hq0]
   exact ra_at h1 (zsOf hq0 P) (fun j hj => by unfold zsOf; rw [dif_pos (hP.out j hj)]) x0
  have cO := fun w => rsof_any p q g h ((i : Int) + 1) hq (by omega) (by omega) w
  rw [show sOf q ((i : Int) + 1) = x0 from hx0] at cO
  have cA := fun {L' : List (Nat × Obj)} (hL : ∀ w, Rep B0 w0 L' w → Rep B0 w0 L w) (w : World) (hw : Rep B0 w0 L' w) => rat_go (p := p) (g := g) (h := h) hq (hA.out.mono hL) (by omega) h1 hP.out lx0 hw
  rw [era] at cA
  replace hi1 := Held.mk hi1
  replace hmu := Held.mk hmu
  replace hin := Held.mk hin
  replace ec0 := Held.mk ec0
  replace lc0 := Held.mk lc0
  replace hi := Held.mk hi
  clear hx0 hc0 era lx0 hik
  repeat (first | (obtain ⟨x, tm', e, ht'⟩ := xAg ht; clear ht; subst e; have ht := ht'; clear ht') | (obtain ⟨tm', e, ht'⟩ := xAd ht; clear ht; subst e; have ht := ht'; clear ht'))
  obtain rfl := xAl ht
  clear ht
  go_wp2_with (first | go_skip | (refine' aAq hR ?_; clear hR; intro blk w hR) | (refine' aBq hR ?_; clear hR; intro blk w hR) | (refine' aPq hR ?_) | (refine' aQq hR ?_) | (refine' aRq hR ?_) | (refine' aZq hR ?_; clear hR; intro w hR) | (refine' aAr hR ?_; clear hR; intro w hR) | (refine' aEr hR ?_) | (refine' aFr hR ?_) | (refine' aHr hR ?_) | fail)
  try simp only [Act.put, kA, kB, List.setIfInBounds_toArray]
  refine cut_code (fun l tm w' => ∃ c10, xFf (false :: false :: false :: false :: false :: false :: false :: false :: false :: false :: false :: false :: false :: false :: false :: false :: false :: false :: false :: false :: false :: false :: false :: false :: false :: false :: false :: false :: false :: false :: false :: false :: false :: false :: false :: false :: true :: true :: true :: true :: true :: true :: true :: true :: true :: true :: true :: false :: false :: false :: false :: false :: false :: false :: false :: false :: false :: false :: false :: false :: false :: false :: false :: false :: false :: false :: false :: false :: false :: false :: false :: false :: false :: false :: false :: false :: false :: false :: false :: []) ((l.set 10 (.pointer (some ⟨c10, 0, none⟩))).set 11 (.int .i64 0)) tm ∧ Rep B0 w0 ((c10, .cells (nl c0).toArray 24) :: (b3, .cells (gl p q g h).toArray 26) :: (X.bl ++ L)) w') ?r1 ?r2
  case r1 =>
   intro Q' hQ'
   refine xJr hR 12 xBo rfl ?_
   clear hR
   refine fHeads [(b3, .cells (gl p q g h).toArray 26)] [1, 1, 1, 1, 1, 2, 2, 2, 2, 2, 2, 2] 7 rfl (by repeat (first | exact xBv | refine xBm (by repeat (first | exact .head _ | with_reducible assumption | apply mC)) ?_)) (by repeat (first | exact xBv | refine xBm (by repeat (first | exact .head _ | with_reducible assumption | apply mC)) ?_)) rfl (by decide +kernel) (fun K hK => ?_)
   repeat ((first | (refine' xCh rfl rfl rfl inferInstance ?hm ?hn ?ha ?_; (case hm => exact .head _); (case hn => rfl)) | (refine xAy ?_) | (refine' xAk (by decide) rfl (.inl rfl) rfl ?ha ?_) | (refine' xAk (by decide) rfl (.inr rfl) rfl ?ha ?_) | (refine' aSq ?ha ?_) | (refine' aTq ?ha ?_) | (refine' aUq ?ha ?_) | (refine' aVq ?ha ?_) | (refine' aWq ?ha ?_) | ((first | refine' xAc (by decide) rfl rfl rfl rfl (fun w => ?hq) ?ha ?_ | refine' xAs (by decide) rfl rfl rfl rfl (fun w => ?hq) ?ha ?_ | refine' xAi (by decide) rfl rfl rfl (fun w => ?hq) ?ha ?_ | refine' xAb (by decide) rfl rfl rfl (fun w => ?hq) ?ha ?_ | refine' xAh (by decide) rfl rfl rfl (fun w => ?hq) ?ha ?_ | refine' xAq (by decide) rfl rfl rfl rfl (fun w => ?hq) ?ha ?_ | refine' xAr (by decide) rfl rfl rfl rfl rfl rfl (fun w => ?hq) ?ha ?_ | refine' xAo (by decide) rfl rfl (fun w => ?hq) ?ha ?_ | refine' xAj (by decide) rfl rfl rfl (fun w => ?hq) ?ha ?_ | refine' xAp (by decide) rfl rfl rfl (fun w => ?hq) ?ha ?_); (case hq => go_simp; try rfl)) | (refine' xAf (by decide) rfl rfl rfl ?ha ?_) | (refine' xAx (by decide) rfl rfl rfl rfl ?ha ?_) | (refine' xAw (by decide) rfl ?ha ?_) | (refine' xBx rfl rfl rfl (xAv Tryz.func42 (by kernel_rfl) (by kernel_rfl) _) (fun w => cO w) ?ha ?_)); try (case ha => simp only [kP, kQ, kA, kB]; try rfl))
   refine xBb (hK _ _ ?_)
   clear hK K
   try simp only [Act.put, kA, kB, List.setIfInBounds_toArray]
   refine f_at [5, 9] (by decide +kernel) rfl ?_
   refine f_is 5 ?_
   refine f_y rfl rfl (xJb rfl rfl rfl (xAv Tryz.func11 (by kernel_rfl) (by kernel_rfl) _) (fun w hw => cA (fun w hw => hw.weaken (by repeat (first | exact List.sublist_append_right _ _ | apply List.Sublist.cons))) w hw)) (by repeat (first | exact xBv | refine xBm (by repeat (first | exact .head _ | with_reducible assumption | apply mC)) ?_)) ?_ ?_
   ·simp only [Act.put, kA, kB, List.setIfInBounds_toArray]
    (refine fHeads [(b3, .cells (gl p q g h).toArray 26)] [2, 2, 2, 2, 2, 2, 1, 1, 1, 2, 2, 2] 3 rfl (by repeat (first | exact xBv | refine xBm (by repeat (first | exact .head _ | with_reducible assumption | apply mC)) ?_)) (by repeat (first | exact xBv | refine xBm (by repeat (first | exact .head _ | with_reducible assumption | apply mC)) ?_)) rfl (by decide +kernel) (fun K hK => ?_); (repeat ((first | (refine xAy ?_) | (refine' xAk (by decide) rfl (.inl rfl) rfl ?ha ?_) | (refine' xAk (by decide) rfl (.inr rfl) rfl ?ha ?_) | (refine' aSq ?ha ?_) | (refine' aTq ?ha ?_) | (refine' aUq ?ha ?_) | (refine' aVq ?ha ?_) | (refine' aWq ?ha ?_) | ((first | refine' xAc (by decide) rfl rfl rfl rfl (fun w => ?hq) ?ha ?_ | refine' xAs (by decide) rfl rfl rfl rfl (fun w => ?hq) ?ha ?_ | refine' xAi (by decide) rfl rfl rfl (fun w => ?hq) ?ha ?_ | refine' xAb (by decide) rfl rfl rfl (fun w => ?hq) ?ha ?_ | refine' xAh (by decide) rfl rfl rfl (fun w => ?hq) ?ha ?_ | refine' xAq (by decide) rfl rfl rfl rfl (fun w => ?hq) ?ha ?_ | refine' xAr (by decide) rfl rfl rfl rfl rfl rfl (fun w => ?hq) ?ha ?_ | refine' xAo (by decide) rfl rfl (fun w => ?hq) ?ha ?_ | refine' xAj (by decide) rfl rfl rfl (fun w => ?hq) ?ha ?_ | refine' xAp (by decide) rfl rfl rfl (fun w => ?hq) ?ha ?_); (case hq => go_simp; try rfl)) | (refine' xAf (by decide) rfl rfl rfl ?ha ?_) | (refine' xAx (by decide) rfl rfl rfl rfl ?ha ?_) | (refine' xAw (by decide) rfl ?ha ?_) | fail); try (case ha => simp only [kP, kQ, kA, kB]; try rfl))); refine xBb (hK _ _ ?_); clear hK K)
    try simp only [Act.put, kA, kB, List.setIfInBounds_toArray]
    refine f_at [9] (by decide +kernel) rfl ?_
    refine f_is 9 ?_
    refine f_new rfl rfl (xIa rfl rfl) (by repeat (first | exact xBv | refine xBm (by repeat (first | exact .head _ | with_reducible assumption | apply mC)) ?_)) (fun c10 => ?_) f_nil
    simp only [Act.put, kA, kB, List.setIfInBounds_toArray]
    refine f_at [10] (by decide +kernel) rfl ?_
    refine f_is 10 ?_
    refine' f_s rfl rfl (xFl (l := [.int .u64 0, .int .u64 0, .int .u64 0, .int .u64 0]) rfl rfl rfl inferInstance rfl rfl rfl rfl ?hs) ?hk ?_ f_nil
    (case hs => repeat (first | exact xBq.head | with_reducible assumption | apply xBq.tail))
    (case hk => repeat (first | exact xBv | refine xBm (by repeat (first | exact .head _ | with_reducible assumption | apply mC)) ?_))
    refine f_at [11] (by decide +kernel) rfl ?_
    refine f_is 11 ?_
    refine f_y rfl rfl (xGw rfl (.inl rfl) rfl) (by repeat (first | exact xBv | refine xBm (by repeat (first | exact .head _ | with_reducible assumption | apply mC)) ?_)) ?_ f_nil
    simp only [Act.put, kA, kB, List.setIfInBounds_toArray]
    refine f_end (by decide +kernel) (fun w hR => ?_)
    simp only [Exit.then]
    exact hQ'.out _ _ ⟨c10, xAn rfl rfl rfl, hR⟩
   ·refine f_is 9 ?_
    refine f_new rfl rfl (xIa rfl rfl) (by repeat (first | exact xBv | refine xBm (by repeat (first | exact .head _ | with_reducible assumption | apply mC)) ?_)) (fun c10 => ?_) f_nil
    simp only [Act.put, kA, kB, List.setIfInBounds_toArray]
    refine f_at [5] (by decide +kernel) rfl ?_
    refine f_is 5 ?_
    refine f_y rfl rfl (xJb rfl rfl rfl (xAv Tryz.func11 (by kernel_rfl) (by kernel_rfl) _) (fun w hw => cA (fun w hw => hw.weaken (by repeat (first | exact List.sublist_append_right _ _ | apply List.Sublist.cons))) w hw)) (by repeat (first | exact xBv | refine xBm (by repeat (first | exact .head _ | with_reducible assumption | apply mC)) ?_)) ?_ f_nil
    simp only [Act.put, kA, kB, List.setIfInBounds_toArray]
    (refine fHeads [(b3, .cells (gl p q g h).toArray 26)] [2, 2, 2, 2, 2, 2, 1, 1, 1, 2, 2, 2] 2 rfl (by repeat (first | exact xBv | refine xBm (by repeat (first | exact .head _ | with_reducible assumption | apply mC)) ?_)) (by repeat (first | exact xBv | refine xBm (by repeat (first | exact .head _ | with_reducible assumption | apply mC)) ?_)) rfl (by decide +kernel) (fun K hK => ?_); (repeat ((first | (refine xAy ?_) | (refine' xAk (by decide) rfl (.inl rfl) rfl ?ha ?_) | (refine' xAk (by decide) rfl (.inr rfl) rfl ?ha ?_) | (refine' aSq ?ha ?_) | (refine' aTq ?ha ?_) | (refine' aUq ?ha ?_) | (refine' aVq ?ha ?_) | (refine' aWq ?ha ?_) | ((first | refine' xAc (by decide) rfl rfl rfl rfl (fun w => ?hq) ?ha ?_ | refine' xAs (by decide) rfl rfl rfl rfl (fun w => ?hq) ?ha ?_ | refine' xAi (by decide) rfl rfl rfl (fun w => ?hq) ?ha ?_ | refine' xAb (by decide) rfl rfl rfl (fun w => ?hq) ?ha ?_ | refine' xAh (by decide) rfl rfl rfl (fun w => ?hq) ?ha ?_ | refine' xAq (by decide) rfl rfl rfl rfl (fun w => ?hq) ?ha ?_ | refine' xAr (by decide) rfl rfl rfl rfl rfl rfl (fun w => ?hq) ?ha ?_ | refine' xAo (by decide) rfl rfl (fun w => ?hq) ?ha ?_ | refine' xAj (by decide) rfl rfl rfl (fun w => ?hq) ?ha ?_ | refine' xAp (by decide) rfl rfl rfl (fun w => ?hq) ?ha ?_); (case hq => go_simp; try rfl)) | (refine' xAf (by decide) rfl rfl rfl ?ha ?_) | (refine' xAx (by decide) rfl rfl rfl rfl ?ha ?_) | (refine' xAw (by decide) rfl ?ha ?_) | fail); try (case ha => simp only [kP, kQ, kA, kB]; try rfl))); refine xBb (hK _ _ ?_); clear hK K)
    try simp only [Act.put, kA, kB, List.setIfInBounds_toArray]
    refine f_at [10] (by decide +kernel) rfl ?_
    refine f_is 10 ?_
    refine' f_s rfl rfl (xFl (l := [.int .u64 0, .int .u64 0, .int .u64 0, .int .u64 0]) rfl rfl rfl inferInstance rfl rfl rfl rfl ?hs) ?hk ?_ f_nil
    (case hs => repeat (first | exact xBq.head | with_reducible assumption | apply xBq.tail))
    (case hk => repeat (first | exact xBv | refine xBm (by repeat (first | exact .head _ | with_reducible assumption | apply mC)) ?_))
    refine f_at [11] (by decide +kernel) rfl ?_
    refine f_is 11 ?_
    refine f_y rfl rfl (xGw rfl (.inl rfl) rfl) (by repeat (first | exact xBv | refine xBm (by repeat (first | exact .head _ | with_reducible assumption | apply mC)) ?_)) ?_ f_nil
    simp only [Act.put, kA, kB, List.setIfInBounds_toArray]
    refine f_end (by decide +kernel) (fun w hR => ?_)
    simp only [Exit.then]
    exact hQ'.out _ _ ⟨c10, xAn rfl rfl rfl, hR⟩
  case r2 =>
   clear hR cA cO
   rintro tm w ⟨c10, ht, hR⟩
   repeat (first | (obtain ⟨x, tm', e, ht'⟩ := xAg ht; clear ht; subst e; have ht := ht'; clear ht') | (obtain ⟨tm', e, ht'⟩ := xAd ht; clear ht; subst e; have ht := ht'; clear ht'))
   obtain rfl := xAl ht
   clear ht
   go_wp2_with (first | go_skip | (refine' aAq hR ?_; clear hR; intro blk w hR) | (refine' aBq hR ?_; clear hR; intro blk w hR) | (refine' aPq hR ?_) | (refine' aQq hR ?_) | (refine' aRq hR ?_) | (refine' aZq hR ?_; clear hR; intro w hR) | (refine' aAr hR ?_; clear hR; intro w hR) | (refine' aEr hR ?_) | (refine' aFr hR ?_) | (refine' aHr hR ?_) | fail)
   try simp only [Act.put, kA, kB, List.setIfInBounds_toArray]
   have ew0 : wdS q c0 i 0 = c0 := rfl
   rw [← ew0] at hR
   refine' xBh (false :: false :: false :: false :: false :: false :: false :: false :: false :: false :: false :: false :: false :: true :: true :: false :: false :: false :: false :: false :: false :: false :: false :: false :: false :: false :: false :: false :: false :: false :: false :: false :: false :: false :: false :: false :: false :: false :: false :: false :: false :: false :: false :: false :: false :: false :: false :: true :: true :: true :: true :: true :: true :: true :: true :: true :: true :: true :: true :: true :: true :: true :: true :: true :: true :: true :: true :: true :: true :: true :: true :: true :: true :: true :: false :: false :: false :: false :: false :: []) (fun (k : Nat) l => l.set 12 (.int .i64 ((k : Int) + 1))) (fun k => (c10, .cells (nl (wdS q c0 i k)).toArray 24) :: (b3, .cells (gl p q g h).toArray 26) :: (X.bl ++ L)) (fun k => n - k) (fun k => k ≤ n ∧ difAt q i k) 0 ?i0 ?iO ?iR ?is
   case i0 => exact xAn rfl rfl rfl
   case iO => exact ⟨Nat.zero_le _, fun t ht => absurd ht (Nat.not_lt_zero t)⟩
   case iR => exact hR
   case is =>
    clear hR ew0
    intro k tm w hO ht hR K2 hK2
    obtain ⟨hk, hat⟩ := hO
    replace hat := Held.mk hat
    have k0 : 0 ≤ (k : Int) := by omega
    by_cases hkn : k = n
    ·have u1 : ¬ (k : Int) + 1 ≤ (n : Int) := by omega
     obtain ⟨W1, hW1⟩ : ∃ z, wdS q c0 i k = z := ⟨_, rfl⟩
     have hv1 : xFg q n len P i = W1 := by rw [xFg, ec0.out, ← hkn, hW1]
     rw [hW1] at hR
     have hb6 : i ≤ 1000000 := by have := hin.out; omega
     have hnx : difTo q n (i + 1) := difTo_next hall.out (by rw [← hkn]; exact hat.out)
     have ekc : ((i + 1 : Nat) : Int) + 1 = (i : Int) + 1 + 1 := by omega
     replace hnx := Held.mk hnx
     replace hv1 := Held.mk hv1
     replace ekc := Held.mk ekc
     clear hK2 hk hA hP hkn hW1 hat
     repeat (first | (obtain ⟨x, tm', e, ht'⟩ := xAg ht; clear ht; subst e; have ht := ht'; clear ht') | (obtain ⟨tm', e, ht'⟩ := xAd ht; clear ht; subst e; have ht := ht'; clear ht'))
     obtain rfl := xAl ht
     clear ht
     go_wp2_with (first | go_skip | (refine' aAq hR ?_; clear hR; intro blk w hR) | (refine' aBq hR ?_; clear hR; intro blk w hR) | (refine' aPq hR ?_) | (refine' aQq hR ?_) | (refine' aRq hR ?_) | (refine' aZq hR ?_; clear hR; intro w hR) | (refine' aAr hR ?_; clear hR; intro w hR) | (refine' aEr hR ?_) | (refine' aFr hR ?_) | (refine' aHr hR ?_) | (refine' xCk hR (xFe rfl rfl rfl) ?_; clear hR; intro bt w hR) | (refine' xEh (L' := fun l => (c10, .cells (nl W1).toArray 24) :: (b3, .cells (gl p q g h).toArray 26) :: (l ++ L)) hR (fun l => List.perm_append_comm_assoc [_, _] l L) rfl rfl rfl rfl hX.out hv1.out hb6 ?_; clear hR; intro X' w hX' hR))
     refine hK.out (i + 1, X') _ _ ⟨hi1.out, hnx.out, hX'⟩ hmu.out (by simp only [ekc.out]; exact xAn rfl rfl rfl) ?_
     exact hR.drop1
    have hkl : k < n := by omega
    have u1 : (k : Int) + 1 ≤ (n : Int) := by omega
    have ek : IntKind.i64.wrap ((k : Int) + 1 + 1) = ((k + 1 : Nat) : Int) + 1 := by rw [IntKind.wrap_i64]; omega
    have hk1 : k + 1 ≤ n := by omega
    have hmk : n - (k + 1) < n - k := by omega
    replace hk1 := Held.mk hk1
    replace hmk := Held.mk hmk
    by_cases hki : k = i
    ·have t2 : ((k : Int) + 1 == (i : Int) + 1) = true := by simp; omega
     have t3 : (k : Int) + 1 = (i : Int) + 1 := by omega
     have hnx : difAt q i (k + 1) := difAt_next hat.out fun hh => absurd hki.symm hh
     have e1 : wdS q c0 i (k + 1) = wdS q c0 i k := by rw [wdS, if_pos hki]
     replace hnx := Held.mk hnx
     replace e1 := Held.mk e1
     replace hki := Held.mk hki
     generalize wdS q c0 i k = R0 at *
     clear hk hA hP hkn hkl hK hat t3
     repeat (first | (obtain ⟨x, tm', e, ht'⟩ := xAg ht; clear ht; subst e; have ht := ht'; clear ht') | (obtain ⟨tm', e, ht'⟩ := xAd ht; clear ht; subst e; have ht := ht'; clear ht'))
     obtain rfl := xAl ht
     clear ht
     go_wp2_with (first | go_skip | (refine' aAq hR ?_; clear hR; intro blk w hR) | (refine' aBq hR ?_; clear hR; intro blk w hR) | (refine' aPq hR ?_) | (refine' aQq hR ?_) | (refine' aRq hR ?_) | (refine' aZq hR ?_; clear hR; intro w hR) | (refine' aAr hR ?_; clear hR; intro w hR) | (refine' aEr hR ?_) | (refine' aFr hR ?_) | (refine' aHr hR ?_) | fail)
     refine hK2.out (k + 1) _ _ ⟨hk1.out, hnx.out⟩ hmk.out (xAn rfl rfl rfl) ?_
     rw [e1.out]
     exact hR
    have t2 : ((k : Int) + 1 == (i : Int) + 1) = false := by simp; omega
    have t3 : ¬ (k : Int) + 1 = (i : Int) + 1 := by omega
    have hin' := hin.out
    have esb : IntKind.i64.wrap ((i : Int) + 1 - ((k : Int) + 1)) = (i : Int) - (k : Int) := by rw [IntKind.wrap_i64]; omega
    obtain ⟨dv, hdv⟩ : ∃ r, sOf q ((i : Int) - (k : Int)) = r := ⟨_, rfl⟩
    have ldv : dv < q := by rw [← hdv]; exact sOf_lt h1 _
    have c1 := fun w => rsof_any p q g h ((i : Int) - (k : Int)) hq (by omega) (by omega) w
    rw [hdv] at c1
    have ok : okE dv q := ⟨h1, ldv⟩
    have c2 := fun w => rsinv_any (p := p) (g := g) (h := h) (Nat.lt_trans ldv hq) hq w
    rw [if_pos ok] at c2
    by_cases hg : Nat.gcd dv q = 1
    ·have hE : invE dv q = 0 := by unfold invE; rw [if_pos ok, if_pos hg]
     rw [hE] at c2
     obtain ⟨iv, hiv⟩ : ∃ r, invM dv q = r := ⟨_, rfl⟩
     have liv : iv < q := by rw [← hiv]; exact (xGb h1 ldv hg).1
     rw [hiv] at c2
     obtain ⟨R0, hR0⟩ : ∃ r, wdS q c0 i k = r := ⟨_, rfl⟩
     have lR : R0 < q := by rw [← hR0]; exact wdS_lt h1 lc0.out k
     obtain ⟨R1, hR1⟩ : ∃ r, mulN R0 iv q = r := ⟨_, rfl⟩
     have e1 : wdS q c0 i (k + 1) = R1 := by rw [wdS, if_neg hki, hR0, hdv, hiv, hR1]
     have c3 := fun w => rsmul_any (p := p) (g := g) (h := h) (Nat.lt_trans lR hq) (Nat.lt_trans liv hq) hq w
     rw [if_pos (show okM R0 iv q from ⟨h1, lR, liv⟩), if_pos (show okM R0 iv q from ⟨h1, lR, liv⟩), hR1] at c3
     rw [hR0] at hR
     have hnx : difAt q i (k + 1) := difAt_next hat.out fun _ => by rw [hdv]; exact hg
     replace hnx := Held.mk hnx
     replace e1 := Held.mk e1
     clear hk hA hP hkn hkl hK hat t3 hki hin' hdv ldv ok hg hE hiv liv hR0 lR hR1
     repeat (first | (obtain ⟨x, tm', e, ht'⟩ := xAg ht; clear ht; subst e; have ht := ht'; clear ht') | (obtain ⟨tm', e, ht'⟩ := xAd ht; clear ht; subst e; have ht := ht'; clear ht'))
     obtain rfl := xAl ht
     clear ht
     go_wp2_with (first | go_skip | (refine' aAq hR ?_; clear hR; intro blk w hR) | (refine' aBq hR ?_; clear hR; intro blk w hR) | (refine' aPq hR ?_) | (refine' aQq hR ?_) | (refine' aRq hR ?_) | (refine' aZq hR ?_; clear hR; intro w hR) | (refine' aAr hR ?_; clear hR; intro w hR) | (refine' aEr hR ?_) | (refine' aFr hR ?_) | (refine' aHr hR ?_) | fail)
     refine' xCb hR [1, 1, 1, 1, 1, 1, 1, 1, 1, 1, 2, 2, 2] 10 13 _ _ [11, 12] xBo (by kernel_rfl) rfl rfl rfl rfl rfl (xEr rfl rfl ?z1) ?_
     case z1 => exact inferInstance
     intro K hK
     clear hR
     repeat ((first | (refine xAy ?_) | (refine' xAk (by decide) rfl (.inl rfl) rfl ?ha ?_) | (refine' xAk (by decide) rfl (.inr rfl) rfl ?ha ?_) | (refine' aSq ?ha ?_) | (refine' aTq ?ha ?_) | (refine' aUq ?ha ?_) | (refine' xCh rfl rfl rfl inferInstance ?hm ?hn ?ha ?_; (case hm => first | with_reducible assumption | repeat (first | exact .head _ | with_reducible assumption | apply mC)); (case hn => first | rfl | simp)) | (refine' aVq ?ha ?_) | (refine' aWq ?ha ?_) | ((first | refine' xAc (by decide) rfl rfl rfl rfl (fun w => ?hq) ?ha ?_ | refine' xAs (by decide) rfl rfl rfl rfl (fun w => ?hq) ?ha ?_ | refine' xAi (by decide) rfl rfl rfl (fun w => ?hq) ?ha ?_ | refine' xAb (by decide) rfl rfl rfl (fun w => ?hq) ?ha ?_ | refine' xAh (by decide) rfl rfl rfl (fun w => ?hq) ?ha ?_ | refine' xAq (by decide) rfl rfl rfl rfl (fun w => ?hq) ?ha ?_ | refine' xAr (by decide) rfl rfl rfl rfl rfl rfl (fun w => ?hq) ?ha ?_ | refine' xAo (by decide) rfl rfl (fun w => ?hq) ?ha ?_ | refine' xAj (by decide) rfl rfl rfl (fun w => ?hq) ?ha ?_ | refine' xAp (by decide) rfl rfl rfl (fun w => ?hq) ?ha ?_); (case hq => go_simp; try rfl)) | (refine' xAf (by decide) rfl rfl rfl ?ha ?_) | (refine' xAx (by decide) rfl rfl rfl rfl ?ha ?_) | (refine' xAw (by decide) rfl ?ha ?_) | (refine' xBx rfl rfl rfl (xAv Tryz.func42 (by kernel_rfl) (by kernel_rfl) _) (fun w => c1 w) ?ha ?_) | (refine' xBx rfl rfl rfl (xAv Tryz.func107 (by kernel_rfl) (by kernel_rfl) _) (fun w => c2 w) ?ha ?_)); try (case ha => simp only [kP, kQ, kA, kB]; try rfl))
     try simp only [List.nil_append, List.cons_append]
     refine xBb (hK _ _ (fun _ => ?_))
     clear hK K
     refine xBe (fun Q hQ => ?_)
     simp only [kP, kQ, kA, kB]
     repeat ((first | refine' xAm rfl (.inl rfl) rfl ?hk ?ha ?_ | refine' xAm rfl (.inr rfl) rfl ?hk ?ha ?_ | (refine' aBr ?hk ?ha ?_) | (refine' aCr ?hk ?ha ?_) | (refine' aDr ?hk ?ha ?_) | (refine' xAz rfl (fun w => ?hq) ?hk ?ha ?_; (case hq => go_simp; try rfl))); (case hk => intro p hp; repeat (first | exact hp | apply mT)); (case ha => simp only [kP, kQ, kA, kB]; try rfl))
     refine xBd (fun w hR => hQ _ _ ?_)
     clear hQ Q
     go_wp2_with (first | go_skip | (refine' aAq hR ?_; clear hR; intro blk w hR) | (refine' aBq hR ?_; clear hR; intro blk w hR) | (refine' aPq hR ?_) | (refine' aQq hR ?_) | (refine' aRq hR ?_) | (refine' aZq hR ?_; clear hR; intro w hR) | (refine' aAr hR ?_; clear hR; intro w hR) | (refine' aEr hR ?_) | (refine' aFr hR ?_) | (refine' aHr hR ?_) | (go_at_call 108; refine (c3 _).mono ?_; rintro e w ⟨rfl, hb⟩; replace hR := hR.call hb; clear hb))
     refine hK2.out (k + 1) _ _ ⟨hk1.out, hnx.out⟩ hmk.out (xAn rfl rfl rfl) ?_
     rw [e1.out]
     exact hR.drop1
    ·have hE : invE dv q = 7 := by unfold invE; rw [if_pos ok, if_neg hg]
     rw [hE] at c2
     have hno : ¬ difOK q n := fun hd => hg (by rw [← hdv]; exact hd i k hin' hkl (fun e => hki e.symm))
     replace hno := Held.mk hno
     generalize invM dv q = iv at *
     clear hk hA hP hkn hkl hK hK2 hat t3 hki hin' hdv ldv ok hg hE
     repeat (first | (obtain ⟨x, tm', e, ht'⟩ := xAg ht; clear ht; subst e; have ht := ht'; clear ht') | (obtain ⟨tm', e, ht'⟩ := xAd ht; clear ht; subst e; have ht := ht'; clear ht'))
     obtain rfl := xAl ht
     clear ht
     go_wp2_with (first | go_skip | (refine' aAq hR ?_; clear hR; intro blk w hR) | (refine' aBq hR ?_; clear hR; intro blk w hR) | (refine' aPq hR ?_) | (refine' aQq hR ?_) | (refine' aRq hR ?_) | (refine' aZq hR ?_; clear hR; intro w hR) | (refine' aAr hR ?_; clear hR; intro w hR) | (refine' aEr hR ?_) | (refine' aFr hR ?_) | (refine' aHr hR ?_) | fail)
     refine' xCb hR [1, 1, 1, 1, 1, 1, 1, 1, 1, 1, 2, 2, 2] 10 13 _ _ [11, 12] xBo (by kernel_rfl) rfl rfl rfl rfl rfl (xEr rfl rfl ?z1) ?_
     case z1 => exact inferInstance
     intro K hK
     clear hR
     repeat ((first | (refine xAy ?_) | (refine' xAk (by decide) rfl (.inl rfl) rfl ?ha ?_) | (refine' xAk (by decide) rfl (.inr rfl) rfl ?ha ?_) | (refine' aSq ?ha ?_) | (refine' aTq ?ha ?_) | (refine' aUq ?ha ?_) | (refine' xCh rfl rfl rfl inferInstance ?hm ?hn ?ha ?_; (case hm => first | with_reducible assumption | repeat (first | exact .head _ | with_reducible assumption | apply mC)); (case hn => first | rfl | simp)) | (refine' aVq ?ha ?_) | (refine' aWq ?ha ?_) | ((first | refine' xAc (by decide) rfl rfl rfl rfl (fun w => ?hq) ?ha ?_ | refine' xAs (by decide) rfl rfl rfl rfl (fun w => ?hq) ?ha ?_ | refine' xAi (by decide) rfl rfl rfl (fun w => ?hq) ?ha ?_ | refine' xAb (by decide) rfl rfl rfl (fun w => ?hq) ?ha ?_ | refine' xAh (by decide) rfl rfl rfl (fun w => ?hq) ?ha ?_ | refine' xAq (by decide) rfl rfl rfl rfl (fun w => ?hq) ?ha ?_ | refine' xAr (by decide) rfl rfl rfl rfl rfl rfl (fun w => ?hq) ?ha ?_ | refine' xAo (by decide) rfl rfl (fun w => ?hq) ?ha ?_ | refine' xAj (by decide) rfl rfl rfl (fun w => ?hq) ?ha ?_ | refine' xAp (by decide) rfl rfl rfl (fun w => ?hq) ?ha ?_); (case hq => go_simp; try rfl)) | (refine' xAf (by decide) rfl rfl rfl ?ha ?_) | (refine' xAx (by decide) rfl rfl rfl rfl ?ha ?_) | (refine' xAw (by decide) rfl ?ha ?_) | (refine' xBx rfl rfl rfl (xAv Tryz.func42 (by kernel_rfl) (by kernel_rfl) _) (fun w => c1 w) ?ha ?_) | (refine' xBx rfl rfl rfl (xAv Tryz.func107 (by kernel_rfl) (by kernel_rfl) _) (fun w => c2 w) ?ha ?_)); try (case ha => simp only [kP, kQ, kA, kB]; try rfl))
     try simp only [List.nil_append, List.cons_append]
     refine xBb (hK _ _ (fun _ => ?_))
     clear hK K
     refine xBe (fun Q hQ => ?_)
     simp only [kP, kQ, kA, kB]
     repeat ((first | refine' xAm rfl (.inl rfl) rfl ?hk ?ha ?_ | refine' xAm rfl (.inr rfl) rfl ?hk ?ha ?_ | (refine' aBr ?hk ?ha ?_) | (refine' aCr ?hk ?ha ?_) | (refine' aDr ?hk ?ha ?_) | (refine' xAz rfl (fun w => ?hq) ?hk ?ha ?_; (case hq => go_simp; try rfl))); (case hk => intro p hp; repeat (first | exact hp | apply mT)); (case ha => simp only [kP, kQ, kA, kB]; try rfl))
     refine xBd (fun w hR => hQ _ _ ?_)
     clear hQ Q
     go_wp2_with (first | go_skip | (refine' aAq hR ?_; clear hR; intro blk w hR) | (refine' aBq hR ?_; clear hR; intro blk w hR) | (refine' aPq hR ?_) | (refine' aQq hR ?_) | (refine' aRq hR ?_) | (refine' aZq hR ?_; clear hR; intro w hR) | (refine' aAr hR ?_; clear hR; intro w hR) | (refine' aEr hR ?_) | (refine' aFr hR ?_) | (refine' aHr hR ?_) | fail)
     go_ret2
     exact .inr ⟨hno.out, rfl, hR.drop1.drop1.drop1.weaken (List.sublist_append_right _ _)⟩
end
end Go.Proofs.YtaaahfjpnggkbaaGreatDoor
