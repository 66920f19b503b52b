import Derived.Test.YtaaahfjpnggkbaaGreatDoorHE
import Derived.Test.YtaaahfjpnggkbaaGreatDoorHR
set_option linter.unusedSimpArgs false
set_option linter.unusedVariables false
set_option maxRecDepth 100000
set_option maxHeartbeats 20000000
namespace Go.Proofs.YtaaahfjpnggkbaaGreatDoor
open Go.RowKit
section
attribute [local irreducible] Calls Instr.build Instr.buildSlice Instr.makeSlice
theorem xEd {ops : Array Oper} {rest : List Oper} {o : Oper} {a : Act} {Q : Exit → Act → World → Prop} {B0 : Nat} {w0 w : World} {L : List (Nat × Obj)} {x : Operand} {m : Nat} (hR : Rep B0 w0 L w) (hg : Region.wanted o (yielded ops a.tmps) = true) (hop : o.op = .buildSlice 27 1 #[(0, x)]) (hx : ev a x = some (num m))
  (h : ∀ b w', Rep B0 w0 ((b, .cells (nl m).toArray 24) :: L) w' → wpList Tryz.prog ops Q rest (a.put o.dst (.slice (some ⟨b, 0, none⟩) 1 1)) w') : wpList Tryz.prog ops Q (o :: rest) a w :=
 xFk hg fun _ hK => by
  have hx := xAw hx
  unfold Oper.wp execOp
  simp only [hop, List.map_toArray, List.map_cons, List.map_nil, hx, xJn, Sem.run_bind, Result.andThen_ok, Sem.run_pure]
  exact hK _ _ (h _ _ (hR.alloc _))
theorem nat_one {B0 : Nat} {w0 : World} {L : List (Nat × Obj)} {b x : Nat} (hx : x < B) (hm : (b, Obj.cells (nl x).toArray 24) ∈ L) : NAt B0 w0 L (some ⟨b, 0, none⟩) 1 1 (fun _ => x) :=
 ⟨Nat.le_refl _, by unfold maxLen; omega, fun _ _ => hx, fun _ => ⟨b, 0, rfl, fun w hw j hj => by
  obtain rfl : j = 0 := by omega
  exact hw.rangeAt (n := 4) hm rfl⟩⟩
noncomputable def uF (q n : Nat) (f : Nat → Nat) (i : Nat) : Nat := prodS q (sOf q 1) (othF q f i (f i)) (n - 1)
noncomputable def vF (q n : Nat) (f : Nat → Nat) (i : Nat) : Nat := if okE (uF q n f i) q then invM (uF q n f i) q else 0
noncomputable def wtF (q n : Nat) (f : Nat → Nat) (x i : Nat) : Nat := prodS q (vF q n f i) (othF q f i x) (n - 1)
noncomputable def wtE (q n : Nat) (f : Nat → Nat) : Nat → Int
 | 0 => 0
 | i + 1 => xJp (wtE q n f i) (invE (uF q n f i) q)
noncomputable def wtG (q n : Nat) (f : Nat → Nat) (x i j : Nat) : Nat := if j < i then wtF q n f x j else 0
theorem uF_lt {q n : Nat} {f : Nat → Nat} (h1 : 1 < q) (i : Nat) : uF q n f i < q := xIq h1 (sOf_lt h1 1) _
theorem vF_lt {q n : Nat} {f : Nat → Nat} (h1 : 1 < q) (i : Nat) : vF q n f i < q := by
 unfold vF
 split
 ·by_cases hg : Nat.gcd (uF q n f i) q = 1
  ·exact (xGn h1 (uF_lt h1 i) hg).1
  ·rw [invM_no hg]; omega
 ·omega
section
variable {p q g h : Nat} {W : World} {a : Option Addr} {n cp : Nat} {f : Nat → Nat} {x : Nat}
theorem weights_bad (hp : p < B) (hq : q < B) (hx : x < B) (hA : NAt W.heap.size W [] a n cp f) (hn : n ≤ 1000000) (hno : ¬ (ptsOK q n f ∧ x < q)) :
  Calls Tryz.prog 9 #[grp p q g h, .slice a n cp, num x] W fun en w' => en = .returned (.tuple #[.slice none 0 0, .int .i64 1]) ∧ Below W.heap.size W w' := by
 classical
 have hR := Rep.init W
 have cp0 := fun (s : Bool) (hs : s = true ↔ ptsOK q n f) (L : List (Nat × Obj)) (w : World) (hw : Rep W.heap.size W L w) => points_any (p := p) (g := g) (h := h) hq (hA.any (L := L)) hn s hs hw
 by_cases h1 : ptsOK q n f
 ·have cp1 := cp0 true ⟨fun _ => h1, fun _ => rfl⟩
  have cm := fun (b : Nat) (L : List (Nat × Obj)) (w : World) (hm : (b, Obj.cells (nl x).toArray 24) ∈ L) (hw : Rep W.heap.size W L w) => xFx (p := p) (g := g) (h := h) hq (nat_one hx hm) (by decide) false ⟨fun hh => (nomatch hh), fun hh => absurd ⟨h1, hh.2 0 (by decide)⟩ hno⟩ hw
  clear cp0 hno h1 hA
  go_enter Tryz.func9, Tryz.ntmps9
  go_wp2_with (first | (refine' aAq hR ?_; clear hR; intro blk w hR) | (refine' aNq hR ?_) | (refine' aVq hR ?_) | (refine' xEd hR rfl rfl rfl ?_; clear hR; intro bt w hR) | (go_at_call 35; refine (cp1 _ _ hR).mono ?_; clear hR; rintro e w ⟨rfl, hR⟩) | (go_at_call 31; refine (cm _ _ _ (.head _) hR).mono ?_; clear hR; rintro e w ⟨rfl, hR⟩))
  go_ret2
  exact ⟨rfl, hR.below⟩
 ·have cp1 := cp0 false ⟨fun hh => (nomatch hh), fun hh => absurd hh h1⟩
  clear cp0 hno h1 hA
  go_enter Tryz.func9, Tryz.ntmps9
  go_wp2_with (first | go_skip | (refine' aAq hR ?_; clear hR; intro blk w hR) | (refine' aNq hR ?_) | (go_at_call 35; refine (cp1 _ _ hR).mono ?_; clear hR; rintro e w ⟨rfl, hR⟩))
  go_ret2
  exact ⟨rfl, hR.below⟩
theorem weights_go (hp : p < B) (hq : q < B) (hA : NAt W.heap.size W [] a n cp f) (hn : n ≤ 1000000) (hok : ptsOK q n f) {xv : Nat} (hx : xv < q) :
  Calls Tryz.prog 9 #[grp p q g h, .slice a n cp, num xv] W fun en w' => (wtE q n f n = 0 ∧ ∃ gb, en = .returned (.tuple #[.slice (some ⟨gb, 0, none⟩) n n, .int .i64 0]) ∧ ∃ cur : List Value, NOwn n cur n (wtF q n f xv) ∧ Rep W.heap.size W [(gb, .cells cur.toArray 24)] w') ∨
   (wtE q n f n ≠ 0 ∧ en = .returned (.tuple #[.slice none 0 0, .int .i64 7]) ∧ Below W.heap.size W w') := by
 have hR := Rep.init W
 obtain ⟨hn0, hdist, h1, hf⟩ := hok
 have hxB := Nat.lt_trans hx hq
 have cp1 := fun (L : List (Nat × Obj)) (w : World) (hw : Rep W.heap.size W L w) => points_any (p := p) (g := g) (h := h) hq (hA.any (L := L)) hn true ⟨fun _ => ⟨hn0, hdist, h1, hf⟩, fun _ => rfl⟩ hw
 have cm := fun (b : Nat) (L : List (Nat × Obj)) (w : World) (hm : (b, Obj.cells (nl xv).toArray 24) ∈ L) (hw : Rep W.heap.size W L w) => xFx (p := p) (g := g) (h := h) hq (nat_one hxB hm) (by decide) true ⟨fun _ => ⟨h1, fun _ _ => hx⟩, fun _ => rfl⟩ hw
 have bf := fun w => xKe p q g h w
 clear hdist
 replace hA := Held.mk hA
 replace hf := Held.mk hf
 replace hn0 := Held.mk hn0
 go_enter Tryz.func9, Tryz.ntmps9
 go_wp2_with (first | (refine' aAq hR ?_; clear hR; intro blk w hR) | (refine' aNq hR ?_) | (refine' aVq hR ?_) | (refine' xEd hR rfl rfl rfl ?_; clear hR; intro bt w hR) | (go_at_call 35; refine (cp1 _ _ hR).mono ?_; clear hR; rintro e w ⟨rfl, hR⟩) | (go_at_call 31; refine (cm _ _ _ (.head _) hR).mono ?_; clear hR; rintro e w ⟨rfl, hR⟩))
 clear cp1 cm
 (first | (rename_i b3; change Nat at b3) | (rename_i b3 _; change Nat at b3) | (rename_i b3 _ _; change Nat at b3) | (rename_i b3 _ _ _; change Nat at b3) | (rename_i b3 _ _ _ _; change Nat at b3) | (rename_i b3 _ _ _ _ _; change Nat at b3) | (rename_i b3 _ _ _ _ _ _; change Nat at b3) | (rename_i b3 _ _ _ _ _ _ _; change Nat at b3) | (rename_i b3 _ _ _ _ _ _ _ _; change Nat at b3) | (rename_i b3 _ _ _ _ _ _ _ _ _; change Nat at b3) | (rename_i b3 _ _ _ _ _ _ _ _ _ _; change Nat at b3) | (rename_i b3 _ _ _ _ _ _ _ _ _ _ _; change Nat at b3) | (rename_i b3 _ _ _ _ _ _ _ _ _ _ _ _; change Nat at b3) | (rename_i b3 _ _ _ _ _ _ _ _ _ _ _ _ _; change Nat at b3) | (rename_i b3 _ _ _ _ _ _ _ _ _ _ _ _ _ _; change Nat at b3) | (rename_i b3 _ _ _ _ _ _ _ _ _ _ _ _ _ _ _; change Nat at b3) | (rename_i b3 _ _ _ _ _ _ _ _ _ _ _ _ _ _ _ _; change Nat at b3) | (rename_i b3 _ _ _ _ _ _ _ _ _ _ _ _ _ _ _ _ _; change Nat at b3) | (rename_i b3 _ _ _ _ _ _ _ _ _ _ _ _ _ _ _ _ _ _; change Nat at b3) | (rename_i b3 _ _ _ _ _ _ _ _ _ _ _ _ _ _ _ _ _ _ _; change Nat at b3) | (rename_i b3 _ _ _ _ _ _ _ _ _ _ _ _ _ _ _ _ _ _ _ _; change Nat at b3) | (rename_i b3 _ _ _ _ _ _ _ _ _ _ _ _ _ _ _ _ _ _ _ _ _; change Nat at b3) | (rename_i b3 _ _ _ _ _ _ _ _ _ _ _ _ _ _ _ _ _ _ _ _ _ _; change Nat at b3) | (rename_i b3 _ _ _ _ _ _ _ _ _ _ _ _ _ _ _ _ _ _ _ _ _ _ _; change Nat at b3) | (rename_i b3 _ _ _ _ _ _ _ _ _ _ _ _ _ _ _ _ _ _ _ _ _ _ _ _; change Nat at b3) | (rename_i b3 _ _ _ _ _ _ _ _ _ _ _ _ _ _ _ _ _ _ _ _ _ _ _ _ _; change Nat at b3) | (rename_i b3 _ _ _ _ _ _ _ _ _ _ _ _ _ _ _ _ _ _ _ _ _ _ _ _ _ _; change Nat at b3) | (rename_i b3 _ _ _ _ _ _ _ _ _ _ _ _ _ _ _ _ _ _ _ _ _ _ _ _ _ _ _; change Nat at b3) | (rename_i b3 _ _ _ _ _ _ _ _ _ _ _ _ _ _ _ _ _ _ _ _ _ _ _ _ _ _ _ _; change Nat at b3) | (rename_i b3 _ _ _ _ _ _ _ _ _ _ _ _ _ _ _ _ _ _ _ _ _ _ _ _ _ _ _ _ _; change Nat at b3))
 replace hR := hR.drop1
 try simp only [Act.put, kA, kB, List.setIfInBounds_toArray]
 refine cut_code (fun l tm w' => ∃ fb gb, xGq (false :: false :: false :: false :: false :: false :: false :: false :: false :: false :: false :: false :: false :: false :: false :: false :: false :: false :: false :: false :: false :: false :: true :: true :: true :: true :: true :: true :: false :: false :: false :: false :: false :: false :: false :: false :: false :: false :: false :: false :: false :: false :: false :: false :: false :: false :: false :: false :: false :: false :: false :: false :: false :: false :: false :: []) ((l.set 8 (.pointer (some ⟨fb, 0, none⟩))).set 9 (.slice (some ⟨gb, 0, none⟩) n n)) tm ∧ Rep W.heap.size W ((gb, .cells (xFd (fun _ => 0) n).toArray 24) :: (fb, .cells (pfl p q g h 0).toArray 79) :: (blk, .cells (nl xv).toArray 24) :: (b3, .cells (gl p q g h).toArray 26) :: []) w') ?r1 ?r2
 case r1 =>
  intro Q' hQ'
  refine xBl hR 8 xBd rfl ?_
  clear hR
  refine xCo [(b3, .cells (gl p q g h).toArray 26)] [1, 1, 2, 1, 1, 2, 2, 2] 4 rfl (by repeat (exact xAu)) (by repeat (first | exact xAu | refine xAx (by repeat (first | exact .head _ | with_reducible assumption | apply mC)) ?_)) rfl (by decide +kernel) (fun K hK => ?_)
  repeat ((first | (refine' hd_build1P (by decide) rfl rfl rfl bf ?ha ?_) | (refine xAp ?_) | (refine' xAj (by decide) rfl (.inl rfl) rfl ?ha ?_) | (refine' aWq ?ha ?_) | (refine' hd_len (by decide) rfl rfl rfl (fun w => ?hq) ?ha ?_; (case hq => go_simp; try rfl))); try (case ha => simp only [kP, kQ, kA, kB]; try rfl))
  refine xAo (hK _ _ ?_)
  clear hK K
  refine f_at [2, 5] (by decide +kernel) rfl ?_
  refine f_is 2 ?_
  refine f_new rfl rfl (isNew_box rfl rfl rfl) (by repeat (first | exact xAu | refine xAx (by repeat (first | exact .head _ | with_reducible assumption | apply mC)) ?_)) (fun fb => ?goA) ?goB
  case' goA =>
   simp only [Act.put, kA, kB, List.setIfInBounds_toArray]
   refine xCo [(b3, .cells (gl p q g h).toArray 26)] [2, 2, 2, 2, 2, 2, 1, 2] 2 rfl (by repeat (first | exact xAu | refine xAx (by repeat (first | exact .head _ | with_reducible assumption | apply mC)) ?_)) (by repeat (first | exact xAu | refine xAx (by repeat (first | exact .head _ | with_reducible assumption | apply mC)) ?_)) rfl (by decide +kernel) (fun K hK => ?_)
   repeat ((first | (refine xAp ?_) | (refine' xAj (by decide) rfl (.inr rfl) rfl ?ha ?_)); try (case ha => simp only [kP, kQ, kA, kB]; try rfl))
   refine xAo (hK _ _ ?_)
   clear hK K
   refine f_at [5] (by decide +kernel) rfl ?_
   refine f_is 5 ?_
   refine f_new rfl rfl (xJm rfl rfl rfl rfl hn) (by repeat (first | exact xAu | refine xAx (by repeat (first | exact .head _ | with_reducible assumption | apply mC)) ?_)) (fun gb => ?_) xCl
   simp only [Act.put, kA, kB, List.setIfInBounds_toArray]
   refine xCo [(b3, .cells (gl p q g h).toArray 26)] [2, 2, 2, 2, 2, 2, 2, 1] 0 rfl (by repeat (first | exact xAu | refine xAx (by repeat (first | exact .head _ | with_reducible assumption | apply mC)) ?_)) (by repeat (first | exact xAu | refine xAx (by repeat (first | exact .head _ | with_reducible assumption | apply mC)) ?_)) rfl (by decide +kernel) (fun K hK => ?_)
   repeat ((first | (refine xAp ?_) | (refine' xAj (by decide) rfl (.inr rfl) rfl ?ha ?_)); try (case ha => simp only [kP, kQ, kA, kB]; try rfl))
   refine xAo (hK _ _ ?_)
   clear hK K
  case' goB =>
   refine f_is 5 ?_
   refine f_new rfl rfl (xJm rfl rfl rfl rfl hn) (by repeat (first | exact xAu | refine xAx (by repeat (first | exact .head _ | with_reducible assumption | apply mC)) ?_)) (fun gb => ?_) xCl
   simp only [Act.put, kA, kB, List.setIfInBounds_toArray]
   refine f_at [2] (by decide +kernel) rfl ?_
   refine f_is 2 ?_
   refine f_new rfl rfl (isNew_box rfl rfl rfl) (by repeat (first | exact xAu | refine xAx (by repeat (first | exact .head _ | with_reducible assumption | apply mC)) ?_)) (fun fb => ?_) xCl
   simp only [Act.put, kA, kB, List.setIfInBounds_toArray]
   refine xCo [(b3, .cells (gl p q g h).toArray 26)] [2, 2, 2, 2, 2, 2, 1, 1] 0 rfl (by repeat (first | exact xAu | refine xAx (by repeat (first | exact .head _ | with_reducible assumption | apply mC)) ?_)) (by repeat (first | exact xAu | refine xAx (by repeat (first | exact .head _ | with_reducible assumption | apply mC)) ?_)) rfl (by decide +kernel) (fun K hK => ?_)
   repeat ((first | (refine xAp ?_) | (refine' xAj (by decide) rfl (.inr rfl) rfl ?ha ?_)); try (case ha => simp only [kP, kQ, kA, kB]; try rfl))
   refine xAo (hK _ _ ?_)
   clear hK K
  all_goals
   refine f_end (by decide +kernel) (fun w hR => ?_)
   simp only [Exit.then]
   refine hQ'.out _ _ ⟨fb, gb, xAf rfl rfl rfl, ?_⟩
   first | exact hR | exact hR.permT (List.Perm.swap _ _ _)
 case r2 =>
  clear hR
  rename_i K5 k5
  rintro tm w ⟨fb, gb, ht, hR⟩
  repeat (first | (obtain ⟨x, tm', e, ht'⟩ := xAc ht; clear ht; subst e; have ht := ht'; clear ht') | (obtain ⟨tm', e, ht'⟩ := xAa ht; clear ht; subst e; have ht := ht'; clear ht'))
  obtain rfl := xAe ht
  clear ht
  simp only [Exit.then]
  refine k5 _ _ ?_
  go_wp2_with (fail)
  have e0 : xFd (fun _ => 0) n = xFd (wtG q n f xv 0) n := xCs (fun j hj => by unfold wtG; rw [if_neg (by omega)])
  rw [e0] at hR
  clear e0
  try simp only [Act.put, kA, kB, List.setIfInBounds_toArray]
  refine' xAv (false :: false :: false :: false :: false :: false :: false :: false :: false :: false :: true :: false :: false :: false :: false :: false :: false :: false :: false :: false :: false :: false :: false :: false :: false :: false :: false :: false :: false :: false :: false :: true :: true :: true :: true :: true :: true :: true :: true :: true :: true :: true :: true :: true :: true :: true :: true :: true :: true :: false :: false :: false :: false :: false :: false :: []) (fun (i : Nat) l => l.set 30 (.int .i64 (i : Int))) (fun i => (gb, .cells (xFd (wtG q n f xv i) n).toArray 24) :: (fb, .cells (pfl p q g h (wtE q n f i)).toArray 79) :: (blk, .cells (nl xv).toArray 24) :: (b3, .cells (gl p q g h).toArray 26) :: []) (fun i => n - i) (fun i => i ≤ n) 0 ?h0 ?hO ?hR ?hs
  case h0 => exact xAf rfl rfl rfl
  case hO => exact Nat.zero_le _
  case hR => exact hR
  case hs =>
   clear hR
   intro i tm w hi ht hR K hK
   have g0 : 0 ≤ (i : Int) := by omega
   by_cases hik : i = n
   ·subst hik
    have t1 : ¬ (i : Int) < (i : Int) := by omega
    have hfin : NOwn i (xFd (wtG q i f xv i) i) i (wtF q i f xv) := ⟨Nat.le_refl _, by unfold maxLen; omega, xBb _ _, by
     rw [List.take_of_length_le (by rw [xBb]; exact Nat.le_refl _)]
     exact xCs fun j hj => by unfold wtG; rw [if_pos hj]⟩
    obtain ⟨E, hE⟩ : ∃ E, wtE q i f i = E := ⟨_, rfl⟩
    replace hR := (show Rep _ _ ((gb, _) :: (fb, .cells (pfl p q g h (wtE q i f i)).toArray 79) :: _) _ from hR)
    rw [hE] at hR
    have te := pfl_e p q g h E
    replace hfin := Held.mk hfin
    replace hE := Held.mk hE
    generalize xFd (wtG q i f xv i) i = rows at *
    clear hK hi hA hf hn0
    by_cases hE0 : E = 0
    ·subst hE0
     repeat (first | (obtain ⟨x, tm', e, ht'⟩ := xAc ht; clear ht; subst e; have ht := ht'; clear ht') | (obtain ⟨tm', e, ht'⟩ := xAa ht; clear ht; subst e; have ht := ht'; clear ht'))
     obtain rfl := xAe ht
     clear ht
     go_wp2_with (refine' aMq hR ?_)
     go_ret2
     exact .inl ⟨hE.out, gb, rfl, rows, hfin.out, hR.weaken (.cons_cons _ (List.nil_sublist _))⟩
    ·have c1 : (E == 0) = false := by simp; exact hE0
     have c2 : (E != 0) = true := by simp; exact hE0
     have hE1 : wtE q i f i ≠ 0 := by rw [hE.out]; exact hE0
     replace hE1 := Held.mk hE1
     repeat (first | (obtain ⟨x, tm', e, ht'⟩ := xAc ht; clear ht; subst e; have ht := ht'; clear ht') | (obtain ⟨tm', e, ht'⟩ := xAa ht; clear ht; subst e; have ht := ht'; clear ht'))
     obtain rfl := xAe ht
     clear ht
     go_wp2_with (refine' aMq hR ?_)
     go_ret2
     exact .inr ⟨hE1.out, rfl, hR.below⟩
   ·have hin : i < n := by omega
    have g1 : (i : Int) < (n : Int) := by omega
    have ei : IntKind.i64.wrap ((i : Int) + 1) = ((i + 1 : Nat) : Int) := by rw [IntKind.wrap_i64]; omega
    have hi1 : i + 1 ≤ n := by omega
    have hmu : n - (i + 1) < n - i := by omega
    replace hi1 := Held.mk hi1
    replace hmu := Held.mk hmu
    obtain ⟨v, hv⟩ : ∃ v, vF q n f i = v := ⟨_, rfl⟩
    have lv : v < q := by rw [← hv]; exact vF_lt h1 i
    obtain ⟨E, hE⟩ : ∃ E, wtE q n f i = E := ⟨_, rfl⟩
    obtain ⟨E', hE'⟩ : ∃ E, wtE q n f (i + 1) = E := ⟨_, rfl⟩
    have hEE : xJp E (invE (uF q n f i) q) = E' := by rw [← hE', wtE, hE]
    obtain ⟨r, hr⟩ : ∃ r, wtF q n f xv i = r := ⟨_, rfl⟩
    have cw := fun (M N : List (Nat × Obj)) (w : World) (hst : xBq M fb (.cells (pfl p q g h E).toArray 79) (.cells (pfl p q g h E').toArray 79) N) (hw : Rep W.heap.size W M w) => weight_any (r := v) h1 hq hf.out hA.out hn hin rfl (show (if okE (uF q n f i) q then invM (uF q n f i) q else 0) = v from hv) rfl hEE hst hw
    have co := fun (L' : List (Nat × Obj)) (w : World) (hmm : (fb, Obj.cells (pfl p q g h E').toArray 79) ∈ L') (hw : Rep W.heap.size W L' w) => others_any (i := i) (xv := xv) h1 hq hx hf.out hA.out hn hin hmm hw
    have lo : ∀ j, othF q f i xv j < q := fun j => by unfold othF; exact subN_lt h1 _ _
    obtain ⟨F, hFe⟩ : ∃ F, othF q f i xv = F := ⟨_, rfl⟩
    have hP : prodS q v F (n - 1) = r := by rw [← hr, wtF, hv, hFe]
    rw [hFe] at co lo
    have cg := fun (X : GrN) (L' : List (Nat × Obj)) (w : World) (hX : xCc X (n - 1) F) (hL : ∀ p, p ∈ X.bl → p ∈ L') (hmm : (fb, Obj.cells (pfl p q g h E').toArray 79) ∈ L') (hw : Rep W.heap.size W L' w) =>
     gt_ok h1 hq lv (fun j _ => lo j) (xEj hX (fun j _ => Nat.lt_trans (lo j) hq) hL) (by omega) hmm hw
    rw [hP] at cg
    obtain ⟨n1, hn1⟩ : ∃ x, n - 1 = x := ⟨_, rfl⟩
    rw [hn1] at co cg
    have hset : ∀ j, j < n → wtG q n f xv (i + 1) j = if j = i then r else wtG q n f xv i j := fun j hj => by
     unfold wtG
     by_cases hji : j = i
     ·subst hji
      rw [if_pos (by omega), if_pos rfl, hr]
     ·rw [if_neg hji]
      by_cases h2 : j < i
      ·rw [if_pos (by omega), if_pos h2]
      ·rw [if_neg (by omega), if_neg h2]
    replace hset := Held.mk hset
    replace hR := (show Rep _ _ ((gb, _) :: (fb, .cells (pfl p q g h (wtE q n f i)).toArray 79) :: _) _ from hR)
    rw [hE] at hR
    replace hE' := Held.mk hE'
    clear hi hA hf hn0 hik hv hE hEE hr hFe hP hn1
    repeat (first | (obtain ⟨x, tm', e, ht'⟩ := xAc ht; clear ht; subst e; have ht := ht'; clear ht') | (obtain ⟨tm', e, ht'⟩ := xAa ht; clear ht; subst e; have ht := ht'; clear ht'))
    obtain rfl := xAe ht
    clear ht
    go_wp2_with (fail)
    rename_i K6 k6
    try simp only [Act.put, kA, kB, List.setIfInBounds_toArray]
    refine xBl hR 16 xBd rfl ?_
    clear hR
    refine xCo [(blk, .cells (nl xv).toArray 24)] [1, 1, 1, 1, 1, 2, 1, 1, 1, 1, 2, 1, 1, 2, 2, 2] 5 rfl (by repeat (exact xAu)) (by repeat (first | exact xAu | refine xAx (by repeat (first | exact .head _ | with_reducible assumption | apply mC)) ?_)) rfl (by decide +kernel) (fun K hK => ?_)
    repeat ((first | (refine xAp ?_) | (refine' xAj (by decide) rfl (.inl rfl) rfl ?ha ?_) | (refine' aWq ?ha ?_) | (refine' xGs (by decide) rfl rfl rfl rfl ?ha ?_)); try (case ha => simp only [kP, kQ, kA, kB]; try rfl))
    refine xAo (hK _ _ ?_)
    clear hK K
    refine f_at [5] (by decide +kernel) rfl ?_
    refine f_is 5 ?_
    refine f_y rfl rfl (xEo rfl rfl rfl (xAi Tryz.func37 (by kernel_rfl) (by kernel_rfl) _) (fun w hw => cw _ _ w (.tail .head) hw)) (by repeat (first | exact xAu | refine xAx (by repeat (first | exact .head _ | with_reducible assumption | apply mC)) ?_)) ?_ xCl
    simp only [Act.put, kA, kB, List.setIfInBounds_toArray]
    refine f_at [10] (by decide +kernel) rfl ?_
    refine f_is 10 ?_
    refine f_call (fun v M => ∃ X : GrN, v = .slice X.a (n1 : Nat) X.cap ∧ xCc X n1 F ∧ M = X.bl ++ _) rfl rfl rfl rfl rfl (xAi Tryz.func38 (by kernel_rfl) (by kernel_rfl) _) (fun w hw => (co _ w (.tail _ (.head _)) hw).mono fun e w' ⟨X, he, hX, hR⟩ => ⟨_, he, _, ⟨X, rfl, hX, rfl⟩, hR⟩) (fun v M hM => ?_) xCl
    obtain ⟨X, rfl, hX, rfl⟩ := hM
    have m1 : ∀ (N : List (Nat × Obj)) (q : Nat × Obj), q ∈ N → q ∈ X.bl ++ N := fun N q hq => List.mem_append_right _ hq
    refine ⟨(by
     intro p hp
     refine m1 _ _ ?_
     revert p
     exact (by repeat (first | exact xAu | refine xAx (by repeat (first | exact .head _ | with_reducible assumption | apply mC)) ?_))), ?_⟩
    simp only [Act.put, kA, kB, List.setIfInBounds_toArray]
    refine f_at [13] (by decide +kernel) rfl ?_
    refine f_is 13 ?_
    refine f_y rfl rfl (xEo rfl rfl rfl (xAi Tryz.func36 (by kernel_rfl) (by kernel_rfl) _) (fun w hw => cg X _ w hX (fun p hp => List.mem_append_left _ hp) (m1 _ _ (.tail _ (.head _))) hw)) (by
     intro p hp
     refine m1 _ _ ?_
     revert p
     exact (by repeat (first | exact xAu | refine xAx (by repeat (first | exact .head _ | with_reducible assumption | apply mC)) ?_))) ?_ xCl
    simp only [Act.put, kA, kB, List.setIfInBounds_toArray]
    refine f_at [14] (by decide +kernel) rfl ?_
    refine f_is 14 ?_
    refine f_y rfl rfl (xIw (u := .pointer (some ⟨gb, i * 4, none⟩)) rfl rfl rfl rfl (fun w => by go_simp)) (by
     intro p hp
     refine m1 _ _ ?_
     revert p
     exact (by repeat (first | exact xAu | refine xAx (by repeat (first | exact .head _ | with_reducible assumption | apply mC)) ?_))) ?_ xCl
    simp only [Act.put, kA, kB, List.setIfInBounds_toArray]
    refine f_at [15] (by decide +kernel) rfl ?_
    refine f_is 15 ?_
    refine f_s rfl rfl (yields_storeN (t := 24) (i := i) (n := n) (v := r) (f := wtG q n f xv i) (f' := wtG q n f xv (i + 1)) rfl rfl rfl rfl hin hset.out (xBq.head.app X.bl)) (by
     intro p hp
     refine m1 _ _ ?_
     revert p
     exact (by repeat (first | exact xAu | refine xAx (by repeat (first | exact .head _ | with_reducible assumption | apply mC)) ?_))) ?_ xCl
    refine f_end (by decide +kernel) (fun w hR => ?_)
    simp only [Exit.then, Exit.inBlock]
    refine k6 _ _ ?_
    go_wp2_with (fail)
    refine hK.out (i + 1) _ _ hi1.out hmu.out (xAf rfl rfl rfl) ?_
    rw [hE'.out]
    exact hR.weaken (List.sublist_append_right _ _)
end
end
section
attribute [local irreducible] Calls Instr.build Instr.buildSlice Instr.makeSlice
section
variable {P : Program} {ops : Array Oper} {B0 : Nat} {w0 w : World} {L L' : List (Nat × Obj)} {r rest : List Oper} {o : Oper} {a : Act} {Q : Exit → Act → World → Prop} {Kp : List (Nat × Obj)} {v : Value}
theorem tl_y (hy : xBa P ops o v a (Rep B0 w0 L) (Rep B0 w0 L')) (hk : ∀ p, p ∈ Kp → p ∈ L') {a' : Act} (ha : a.put o.dst v = a') (h : xFe P ops (xDa B0 w0 Kp) Q r (Rep B0 w0 L') a') : xFe P ops (xDa B0 w0 Kp) Q (o :: r) (Rep B0 w0 L) a :=
 ⟨v, _, hy, ⟨L', rfl, hk⟩, by rw [ha]; exact h⟩
end
end
end Go.Proofs.YtaaahfjpnggkbaaGreatDoor
