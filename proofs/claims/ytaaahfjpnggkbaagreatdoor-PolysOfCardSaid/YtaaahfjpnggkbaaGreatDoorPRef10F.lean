/- The contract of balefireref10.Through. -/
import Derived.Test.YtaaahfjpnggkbaaGreatDoorPRC
import Derived.Test.YtaaahfjpnggkbaaGreatDoorPK2
set_option linter.unusedVariables false
set_option linter.unusedSimpArgs false
namespace Go.Proofs.YtaaahfjpnggkbaaGreatDoor
open Go.RowKit
attribute [local irreducible] Calls Instr.build Instr.buildSlice Instr.makeSlice
noncomputable def rpG (q : Nat) (f : Nat → Nat) (i v k m j : Nat) : Nat := if j < m then rpA q f i v k j else rpA q f i v (k + 1) j
noncomputable def roG (q n : Nat) (f V : Nat → Nat) (i t j : Nat) : Nat := if j < t then roF q n f V (i + 1) j else roF q n f V i j
section
variable {p q g h : Nat} {B0 : Nat} {w0 w : World} {L : List (Nat × Obj)} {a b : Option Addr} {n m cp cq : Nat} {f V : Nat → Nat}
set_option maxRecDepth 100000 in
set_option maxHeartbeats 4000000 in
theorem rthrough_bad (hq : q < B) (hA : NAt B0 w0 [] a n cp f) (hV : NAt B0 w0 [] b m cq V) (hn : n ≤ 1000) (hm : m ≤ 1000) (hno : ¬ (ptsOK q n f ∧ m = n ∧ ∀ j, j < m → V j < q)) (hR : Rep B0 w0 L w) :
    Calls Tryz.prog 13 #[grp p q g h, .slice a n cp, .slice b m cq] w fun en w' => en = .returned (.tuple #[.slice none 0 0, .int .i64 1]) ∧ Rep B0 w0 L w' := by
  classical
  have cp0 := fun (s : Bool) (hs : s = true ↔ ptsOK q n f) (L : List (Nat × Obj)) (w : World) (hw : Rep B0 w0 L w) => rpoints_any (p := p) (g := g) (h := h) hq (hA.any (L := L)) (by omega) s hs hw
  by_cases h1 : ptsOK q n f
  · have cp1 := cp0 true ⟨fun _ => h1, fun _ => rfl⟩
    by_cases h2 : m = n
    · have cm := fun (L : List (Nat × Obj)) (w : World) (hw : Rep B0 w0 L w) => rall_any (p := p) (g := g) (h := h) hq (hV.any (L := L)) (by omega) false ⟨fun hh => (nomatch hh), fun hh => absurd ⟨h1, h2, hh.2⟩ hno⟩ hw
      have e1 : (m : Int) = (n : Int) := by omega
      have e2 : ((m : Int) == (n : Int)) = true := by simp; omega
      have e3 : ((m : Int) != (n : Int)) = false := by simp; omega
      clear cp0 hno h1 hA hV
      subst h2
      go_enter Tryz.func13, Tryz.ntmps13
      go_wp2_with (first | go_skip | (refine' xAb hR rfl rfl rfl ?_; clear hR; intro blk w hR) | (refine' xAa hR rfl rfl inferInstance ?_; clear hR; intro blk w hR) | (refine' aNq hR rfl rfl rfl ?_) | (refine' aOq hR rfl rfl rfl ?_) | (refine' aWq hR rfl rfl rfl rfl ?_; clear hR; intro w hR) | (refine' xAp hR rfl rfl rfl inferInstance ?hm ?hn ?_; (case hm => first | with_reducible assumption | repeat (first | exact .head _ | with_reducible assumption | apply mC)); (case hn => first | rfl | simp)) | (refine' xAx hR rfl rfl rfl inferInstance ?hm ?hv ?hn ?_; (case hm => first | with_reducible assumption | repeat (first | exact .head _ | with_reducible assumption | apply mC)); (case hv => first | with_reducible assumption | (simp only [kC, kD, kE, kF]; try rfl)); (case hn => first | rfl | simp)) | (go_at_call 45; refine (cp1 _ _ hR).mono ?_; clear hR; rintro e w ⟨rfl, hR⟩) | (go_at_call 40; refine (cm _ _ hR).mono ?_; clear hR; rintro e w ⟨rfl, hR⟩))
      go_ret2
      exact ⟨rfl, hR.weaken (by repeat (first | exact List.Sublist.refl _ | apply List.Sublist.cons))⟩
    · have e1 : ¬ (m : Int) = (n : Int) := by omega
      have e2 : ((m : Int) == (n : Int)) = false := by simp; omega
      have e3 : ((m : Int) != (n : Int)) = true := by simp; omega
      clear cp0 hno h1 hA hV
      go_enter Tryz.func13, Tryz.ntmps13
      go_wp2_with (first | go_skip | (refine' xAb hR rfl rfl rfl ?_; clear hR; intro blk w hR) | (refine' xAa hR rfl rfl inferInstance ?_; clear hR; intro blk w hR) | (refine' aNq hR rfl rfl rfl ?_) | (refine' aOq hR rfl rfl rfl ?_) | (refine' aWq hR rfl rfl rfl rfl ?_; clear hR; intro w hR) | (refine' xAp hR rfl rfl rfl inferInstance ?hm ?hn ?_; (case hm => first | with_reducible assumption | repeat (first | exact .head _ | with_reducible assumption | apply mC)); (case hn => first | rfl | simp)) | (refine' xAx hR rfl rfl rfl inferInstance ?hm ?hv ?hn ?_; (case hm => first | with_reducible assumption | repeat (first | exact .head _ | with_reducible assumption | apply mC)); (case hv => first | with_reducible assumption | (simp only [kC, kD, kE, kF]; try rfl)); (case hn => first | rfl | simp)) | (go_at_call 45; refine (cp1 _ _ hR).mono ?_; clear hR; rintro e w ⟨rfl, hR⟩))
      go_ret2
      exact ⟨rfl, hR.weaken (by repeat (first | exact List.Sublist.refl _ | apply List.Sublist.cons))⟩
  · have cp1 := cp0 false ⟨fun hh => (nomatch hh), fun hh => absurd hh h1⟩
    clear cp0 hno h1 hA hV
    go_enter Tryz.func13, Tryz.ntmps13
    go_wp2_with (first | go_skip | (refine' xAb hR rfl rfl rfl ?_; clear hR; intro blk w hR) | (refine' xAa hR rfl rfl inferInstance ?_; clear hR; intro blk w hR) | (refine' aNq hR rfl rfl rfl ?_) | (refine' aOq hR rfl rfl rfl ?_) | (refine' aWq hR rfl rfl rfl rfl ?_; clear hR; intro w hR) | (refine' xAp hR rfl rfl rfl inferInstance ?hm ?hn ?_; (case hm => first | with_reducible assumption | repeat (first | exact .head _ | with_reducible assumption | apply mC)); (case hn => first | rfl | simp)) | (refine' xAx hR rfl rfl rfl inferInstance ?hm ?hv ?hn ?_; (case hm => first | with_reducible assumption | repeat (first | exact .head _ | with_reducible assumption | apply mC)); (case hv => first | with_reducible assumption | (simp only [kC, kD, kE, kF]; try rfl)); (case hn => first | rfl | simp)) | (go_at_call 45; refine (cp1 _ _ hR).mono ?_; clear hR; rintro e w ⟨rfl, hR⟩))
    go_ret2
    exact ⟨rfl, hR.weaken (by repeat (first | exact List.Sublist.refl _ | apply List.Sublist.cons))⟩
set_option maxRecDepth 100000 in
set_option maxHeartbeats 32000000 in
set_option maxRecDepth 100000 in
theorem rthrough_go (hq : q < B) (hA : NAt B0 w0 [] a n cp f) (hVA : NAt B0 w0 [] b n cq V) (hn : n ≤ 1000) (hok : ptsOK q n f) (hV : ∀ j, j < n → V j < q) (hR : Rep B0 w0 L w) :
    Calls Tryz.prog 13 #[grp p q g h, .slice a n cp, .slice b n cq] w fun en w' => ((∀ i, i < n → undOK q n f i) ∧ ∃ gb, en = .returned (.tuple #[.slice (some ⟨gb, 0, none⟩) n n, .int .i64 0]) ∧ ∃ cur : List Value, NOwn n cur n (roF q n f V n) ∧ Rep B0 w0 ((gb, .cells cur.toArray 24) :: L) w') ∨
      (¬ (∀ i, i < n → undOK q n f i) ∧ en = .returned (.tuple #[.slice none 0 0, .int .i64 7]) ∧ Rep B0 w0 L w') := by
  classical
  obtain ⟨hn0, hdist, h1, hf⟩ := hok
  have hnM : n ≤ 1000000 := by omega
  have cp1 := fun (L : List (Nat × Obj)) (w : World) (hw : Rep B0 w0 L w) => rpoints_any (p := p) (g := g) (h := h) hq (hA.any (L := L)) hnM true ⟨fun _ => ⟨hn0, hdist, h1, hf⟩, fun _ => rfl⟩ hw
  have cm := fun (L : List (Nat × Obj)) (w : World) (hw : Rep B0 w0 L w) => rall_any (p := p) (g := g) (h := h) hq (hVA.any (L := L)) hnM true ⟨fun _ => ⟨h1, hV⟩, fun _ => rfl⟩ hw
  have hmk := make_numsZ n (by omega)
  have e2 : ((n : Int) == (n : Int)) = true := by simp
  have e3 : ((n : Int) != (n : Int)) = false := by simp
  clear hdist
  replace hA := Held.mk hA
  replace hVA := Held.mk hVA
  replace hf := Held.mk hf
  replace hV := Held.mk hV
  replace hn0 := Held.mk hn0
  go_enter Tryz.func13, Tryz.ntmps13
  go_wp2_with (first | go_skip | (refine' xAb hR rfl rfl rfl ?_; clear hR; intro blk w hR) | (refine' xAa hR rfl rfl inferInstance ?_; clear hR; intro blk w hR) | (refine' aNq hR rfl rfl rfl ?_) | (refine' aOq hR rfl rfl rfl ?_) | (refine' aWq hR rfl rfl rfl rfl ?_; clear hR; intro w hR) | (refine' xAp hR rfl rfl rfl inferInstance ?hm ?hn ?_; (case hm => first | with_reducible assumption | repeat (first | exact .head _ | with_reducible assumption | apply mC)); (case hn => first | rfl | simp)) | (refine' xAx hR rfl rfl rfl inferInstance ?hm ?hv ?hn ?_; (case hm => first | with_reducible assumption | repeat (first | exact .head _ | with_reducible assumption | apply mC)); (case hv => first | with_reducible assumption | (simp only [kC, kD, kE, kF]; try rfl)); (case hn => first | rfl | simp)) | (go_at_call 45; refine (cp1 _ _ hR).mono ?_; clear hR; rintro e w ⟨rfl, hR⟩) | (go_at_call 40; refine (cm _ _ hR).mono ?_; clear hR; rintro e w ⟨rfl, hR⟩) | (refine' wpList_makeRep hR rfl rfl rfl rfl hmk ?_; clear hR; intro gb w hR))
  clear cp1 cm e2 e3
  obtain ⟨b3, hb3⟩ : ∃ x, x = blk := ⟨_, rfl⟩
  subst hb3
  have e0 : xBu (fun _ => 0) n = xBu (roF q n f V 0) n := xBq (fun j hj => rfl)
  rw [e0] at hR
  clear e0
  try simp only [Act.put, kA, kB, List.setIfInBounds_toArray]
  refine' xBm (false :: false :: false :: false :: false :: false :: false :: false :: false :: false :: true :: true :: true :: true :: true :: true :: true :: false :: false :: false :: false :: false :: false :: false :: false :: false :: false :: false :: false :: false :: false :: false :: false :: false :: false :: false :: false :: true :: true :: true :: true :: true :: true :: true :: true :: true :: true :: true :: true :: true :: true :: true :: true :: true :: true :: true :: true :: true :: true :: true :: true :: true :: true :: true :: true :: true :: true :: true :: true :: true :: true :: true :: true :: true :: true :: true :: true :: true :: true :: true :: true :: true :: true :: true :: true :: true :: true :: true :: true :: true :: true :: true :: true :: true :: true :: true :: true :: true :: true :: true :: true :: true :: true :: true :: true :: true :: true :: true :: true :: true :: true :: true :: true :: true :: true :: true :: true :: true :: true :: true :: true :: true :: true :: true :: true :: true :: false :: []) (fun (i : Nat) l => l.set 9 (.int .i64 (i : Int))) (fun i => (gb, .cells (xBu (roF q n f V i) n).toArray 24) :: (b3, .cells (gl p q g h).toArray 26) :: L) (fun i => n - i) (fun i => i ≤ n ∧ ∀ j, j < i → undOK q n f j) 0 ?h0 ?hO ?hR ?hs
  case h0 => exact xAr rfl rfl rfl
  case hO => exact ⟨Nat.zero_le _, fun j hj => absurd hj (Nat.not_lt_zero j)⟩
  case hR => exact hR
  case hs =>
    clear hR
    intro i tm w hO ht hR K hK
    obtain ⟨hi, hall⟩ := hO
    replace hall := Held.mk hall
    have g0 : 0 ≤ (i : Int) := by omega
    by_cases hik : i = n
    · subst hik
      have t1 : ¬ (i : Int) < (i : Int) := by omega
      have hfin : NOwn i (xBu (roF q i f V i) i) i (roF q i f V i) := rowsN_own hnM
      replace hfin := Held.mk hfin
      replace hR := (show Rep _ _ ((gb, .cells (xBu (roF q i f V i) i).toArray 24) :: _) _ from hR)
      generalize xBu (roF q i f V i) i = rows at *
      clear hK hi hA hVA hf hV hn0 hmk
      repeat (first | (obtain ⟨x, tm', e, ht'⟩ := xAg ht; clear ht; subst e; have ht := ht'; clear ht') | (obtain ⟨tm', e, ht'⟩ := xAd ht; clear ht; subst e; have ht := ht'; clear ht'))
      obtain rfl := xAn ht
      clear ht
      go_wp2_with (first | (refine' xAb hR rfl rfl rfl ?_; clear hR; intro blk w hR) | (refine' xAa hR rfl rfl inferInstance ?_; clear hR; intro blk w hR) | (refine' aNq hR rfl rfl rfl ?_) | (refine' aOq hR rfl rfl rfl ?_) | (refine' aWq hR rfl rfl rfl rfl ?_; clear hR; intro w hR) | fail)
      go_ret2
      exact .inl ⟨hall.out, gb, rfl, rows, hfin.out, hR.weaken ((List.sublist_cons_self _ _).cons_cons _)⟩
    have hin : i < n := by omega
    have g1 : (i : Int) < (n : Int) := by omega
    have ei : IntKind.i64.wrap ((i : Int) + 1) = ((i + 1 : Nat) : Int) := by rw [IntKind.wrap_i64]; omega
    have hi1 : i + 1 ≤ n := by omega
    have hmu : n - (i + 1) < n - i := by omega
    replace hi1 := Held.mk hi1
    replace hmu := Held.mk hmu
    obtain ⟨s, hs⟩ : ∃ s : Bool, s = true ↔ undOK q n f i := ⟨decide (undOK q n f i), decide_eq_true_iff⟩
    obtain ⟨r, hr⟩ : ∃ r, (if s = true then ruP q f i n else 0) = r := ⟨_, rfl⟩
    have cu := fun (L : List (Nat × Obj)) (w : World) (hw : Rep B0 w0 L w) => runder_any (p := p) (g := g) (h := h) h1 hq hf.out hA.out hnM hin s hs hr hw
    cases s with
    | false =>
      have hno : ¬ (∀ i, i < n → undOK q n f i) := fun hh => by have := hs.2 (hh i hin); cases this
      replace hno := Held.mk hno
      clear hK hi hA hVA hf hV hn0 hall hs hr hik hin hmk
      repeat (first | (obtain ⟨x, tm', e, ht'⟩ := xAg ht; clear ht; subst e; have ht := ht'; clear ht') | (obtain ⟨tm', e, ht'⟩ := xAd ht; clear ht; subst e; have ht := ht'; clear ht'))
      obtain rfl := xAn ht
      clear ht
      go_wp2_with (first | (refine' xAb hR rfl rfl rfl ?_; clear hR; intro blk w hR) | (refine' xAa hR rfl rfl inferInstance ?_; clear hR; intro blk w hR) | (refine' aNq hR rfl rfl rfl ?_) | (refine' aOq hR rfl rfl rfl ?_) | (refine' aWq hR rfl rfl rfl rfl ?_; clear hR; intro w hR) | (go_at_call 46; refine (cu _ _ hR).mono ?_; clear hR; rintro e w ⟨rfl, hR⟩))
      go_ret2
      exact .inr ⟨hno.out, rfl, hR.weaken (by repeat (first | exact List.Sublist.refl _ | apply List.Sublist.cons))⟩
    | true =>
      have hnext : ∀ j, j < i + 1 → undOK q n f j := fun j hj => by
        by_cases hji : j = i
        · rw [hji]; exact hs.1 rfl
        · exact hall.out j (by omega)
      have hr' : ruP q f i n = r := by rw [← hr, if_pos rfl]
      have lr : r < q := by rw [← hr']; exact ruP_lt h1 f i n
      obtain ⟨bb, off, rfl, hxx⟩ := hA.out.at' (by omega)
      obtain ⟨bc, ofc, rfl, hyy⟩ := hVA.out.at' (by omega)
      obtain ⟨y, hye⟩ : ∃ y, V i = y := ⟨_, rfl⟩
      have ly : y < q := by rw [← hye]; exact hV.out i hin
      have ldv := fun (L : List (Nat × Obj)) (w : World) (hw : Rep B0 w0 L w) => xBr (hyy w (hw.weaken (List.nil_sublist _)) i hin)
      rw [hye] at ldv
      obtain ⟨v, hv⟩ : ∃ v, mulN r y q = v := ⟨_, rfl⟩
      have lv : v < q := by rw [← hv]; exact mul_lt' h1 _ _
      have hvv : rvF q n f V i = v := by unfold rvF; rw [hr', hye, hv]
      have c0 := fun w => rtimes_lit (p := p) (g := g) (h := h) h1 hq lr ly hv w
      have hs0 : ∀ j, j < n → rpA q f i v 0 j = if j = 0 then v else (fun _ => 0) j := fun j _ => rfl
      have n0 : 0 < n := hn0.out
      have n0' : (0 : Int) < (n : Int) := by omega
      have n0b : 0 < n := n0
      have n0c : ¬ n = 0 := by omega
      replace hs0 := Held.mk hs0
      replace hnext := Held.mk hnext
      replace hxx := Held.mk hxx
      replace hvv := Held.mk hvv
      replace n0 := Held.mk n0
      clear hs hr hr' hall hi hye ly hv lr hyy
      repeat (first | (obtain ⟨x, tm', e, ht'⟩ := xAg ht; clear ht; subst e; have ht := ht'; clear ht') | (obtain ⟨tm', e, ht'⟩ := xAd ht; clear ht; subst e; have ht := ht'; clear ht'))
      obtain rfl := xAn ht
      clear ht
      go_wp2_with (first | (refine' xAb hR rfl rfl rfl ?_; clear hR; intro blk w hR) | (refine' xAa hR rfl rfl inferInstance ?_; clear hR; intro blk w hR) | (refine' aNq hR rfl rfl rfl ?_) | (refine' aOq hR rfl rfl rfl ?_) | (refine' aWq hR rfl rfl rfl rfl ?_; clear hR; intro w hR) | (go_at_call 46; refine (cu _ _ hR).mono ?_; clear hR; rintro e w ⟨rfl, hR⟩) | (refine' wpList_makeRep hR rfl rfl rfl rfl hmk ?_; clear hR; intro pb w hR))
      clear cu
      obtain ⟨b10, hb10⟩ : ∃ x, x = blk := ⟨_, rfl⟩
      subst hb10
      refine xAi hR [0, 0, 0, 0, 0, 0, 0, 0, 0, 2] [] xBt (by kernel_rfl) rfl rfl (fun K hK => ?_)
      clear hR
      repeat ((first | (refine xBa ?_) | (refine' xAm (by decide) rfl (.inl rfl) rfl ?ha ?_) | (refine' xAm (by decide) rfl (.inr rfl) rfl ?ha ?_) | (refine' aQq rfl rfl rfl ?ha ?_) | (refine' aRq rfl rfl rfl ?ha ?_) | (refine' aSq rfl rfl rfl ?ha ?_) | (refine' aTq rfl rfl rfl ?ha ?_) | (refine' aUq rfl rfl rfl ?ha ?_) | ((first | refine' xAf (by decide) rfl rfl rfl rfl (fun w => ?hq) ?ha ?_ | refine' xAv (by decide) rfl rfl rfl rfl (fun w => ?hq) ?ha ?_ | refine' xAj (by decide) rfl rfl rfl (fun w => ?hq) ?ha ?_ | refine' xAe (by decide) rfl rfl rfl (fun w => ?hq) ?ha ?_ | refine' xAk (by decide) rfl rfl rfl (fun w => ?hq) ?ha ?_ | refine' xAu (by decide) rfl rfl rfl rfl (fun w => ?hq) ?ha ?_ | refine' xAt (by decide) rfl rfl rfl rfl rfl rfl (fun w => ?hq) ?ha ?_ | refine' xAs (by decide) rfl rfl (fun w => ?hq) ?ha ?_ | refine' xAl (by decide) rfl rfl rfl (fun w => ?hq) ?ha ?_ | refine' xAw (by decide) rfl rfl rfl (fun w => ?hq) ?ha ?_); (case hq => go_simp; try rfl)) | (refine' xAh (by decide) rfl rfl rfl ?ha ?_) | (refine' xBb (by decide) rfl rfl rfl rfl ?ha ?_) | (refine' xAz (by decide) rfl ?ha ?_) | (refine' xBn rfl rfl rfl (ldv _) ?ha ?_; (case ha => simp only [kP, kQ, kA, kB]; try rfl)) | (refine' xBd rfl rfl rfl (xBc Tryz.func44 (by kernel_rfl) (by kernel_rfl) _) (fun w => c0 w) ?ha ?_)); try (case ha => simp only [kP, kQ, kA, kB]; try rfl))
      refine xBg (hK _ _ ?_)
      clear hK K
      refine xBj (fun Q hQ => ?_)
      try simp only [List.nil_append, List.cons_append]
      try simp only [kP, kQ, kA, kB]
      refine tl_y (xCx (t := 24) (i := 0) (n := n) (v := v) (f := fun _ => 0) (f' := rpA q f i v 0) rfl rfl rfl rfl n0.out hs0.out .head) (fun p hp => absurd hp List.not_mem_nil) rfl ?_
      refine xBi (fun w hR => hQ _ _ ?_)
      clear hQ Q
      go_wp2_with (first | (refine' xAb hR rfl rfl rfl ?_; clear hR; intro blk w hR) | (refine' xAa hR rfl rfl inferInstance ?_; clear hR; intro blk w hR) | (refine' aNq hR rfl rfl rfl ?_) | (refine' aOq hR rfl rfl rfl ?_) | (refine' aWq hR rfl rfl rfl rfl ?_; clear hR; intro w hR) | fail)
      clear c0 ldv hs0 n0b n0c n0'
      try simp only [Act.put, kA, kB, List.setIfInBounds_toArray]
      refine' xBm (false :: false :: false :: false :: false :: false :: false :: false :: false :: false :: false :: false :: false :: false :: true :: true :: false :: false :: false :: false :: false :: false :: false :: false :: false :: false :: false :: false :: false :: false :: false :: false :: false :: false :: false :: false :: false :: false :: false :: false :: false :: false :: false :: false :: false :: false :: false :: false :: false :: false :: false :: false :: false :: false :: false :: false :: false :: false :: false :: false :: false :: false :: false :: false :: true :: true :: true :: true :: true :: true :: true :: true :: true :: true :: true :: true :: true :: true :: true :: true :: true :: true :: true :: true :: true :: true :: true :: true :: true :: true :: true :: true :: true :: true :: true :: true :: true :: true :: true :: true :: true :: true :: true :: true :: true :: true :: true :: false :: false :: false :: false :: false :: false :: false :: false :: false :: false :: false :: false :: false :: false :: false :: false :: false :: false :: false :: false :: []) (fun (k : Nat) l => l.set 13 (.int .i64 (k : Int))) (fun k => (pb, .cells (xBu (rpA q f i v k) n).toArray 24) :: (b10, .cells (nl r).toArray 24) :: (gb, .cells (xBu (roF q n f V i) n).toArray 24) :: (b3, .cells (gl p q g h).toArray 26) :: L) (fun k => n - k) (fun k => k ≤ n) 0 ?u0 ?uO ?uR ?us
      case u0 => exact xAr rfl rfl rfl
      case uO => exact Nat.zero_le _
      case uR => exact hR
      case us =>
        clear hR
        intro k tm w hk ht hR K2 hK2
        have k0 : 0 ≤ (k : Int) := by omega
        by_cases hkn : k = n
        · subst hkn
          have t1 : ¬ (k : Int) < (k : Int) := by omega
          have e1 : xBu (roF q k f V i) k = xBu (roG q k f V i 0) k := xBq fun j hj => by unfold roG; rw [if_neg (by omega)]
          replace hR := (show Rep _ _ (_ :: _ :: (gb, .cells (xBu (roF q k f V i) k).toArray 24) :: _) _ from hR)
          rw [e1] at hR
          clear hK2 hk e1 hmk
          repeat (first | (obtain ⟨x, tm', e, ht'⟩ := xAg ht; clear ht; subst e; have ht := ht'; clear ht') | (obtain ⟨tm', e, ht'⟩ := xAd ht; clear ht; subst e; have ht := ht'; clear ht'))
          obtain rfl := xAn ht
          clear ht
          go_wp2_with (first | (refine' xAb hR rfl rfl rfl ?_; clear hR; intro blk w hR) | (refine' xAa hR rfl rfl inferInstance ?_; clear hR; intro blk w hR) | (refine' aNq hR rfl rfl rfl ?_) | (refine' aOq hR rfl rfl rfl ?_) | (refine' aWq hR rfl rfl rfl rfl ?_; clear hR; intro w hR) | fail)
          try simp only [Act.put, kA, kB, List.setIfInBounds_toArray]
          refine' xBm (false :: false :: false :: false :: false :: false :: false :: false :: false :: false :: false :: false :: false :: false :: false :: false :: false :: false :: false :: false :: false :: false :: false :: false :: false :: false :: false :: false :: false :: false :: false :: false :: false :: false :: false :: false :: false :: false :: false :: false :: false :: false :: false :: false :: false :: false :: false :: false :: false :: false :: false :: false :: false :: false :: false :: false :: false :: false :: false :: false :: false :: false :: false :: false :: false :: false :: false :: false :: false :: false :: false :: false :: false :: false :: false :: false :: false :: false :: false :: false :: false :: false :: false :: false :: false :: false :: false :: false :: false :: false :: false :: false :: false :: false :: false :: false :: false :: false :: false :: false :: false :: false :: false :: false :: false :: false :: false :: true :: true :: true :: true :: true :: true :: true :: true :: true :: true :: true :: true :: true :: true :: true :: true :: true :: true :: true :: false :: []) (fun (t : Nat) l => l.set 16 (.int .i64 (t : Int))) (fun t => (pb, .cells (xBu (rpA q f i v k) k).toArray 24) :: (b10, .cells (nl r).toArray 24) :: (gb, .cells (xBu (roG q k f V i t) k).toArray 24) :: (b3, .cells (gl p q g h).toArray 26) :: L) (fun t => k - t) (fun t => t ≤ k) 0 ?v0 ?vO ?vR ?vs
          case v0 => exact xAr rfl rfl rfl
          case vO => exact Nat.zero_le _
          case vR => exact hR
          case vs =>
            clear hR
            intro t tm w htn ht hR K3 hK3
            have j0 : 0 ≤ (t : Int) := by omega
            by_cases htt : t = k
            · subst htt
              have e1 : xBu (roG q t f V i t) t = xBu (roF q t f V (i + 1)) t := xBq fun j hj => by unfold roG; rw [if_pos hj]
              replace hR := (show Rep _ _ (_ :: _ :: (gb, .cells (xBu (roG q t f V i t) t).toArray 24) :: _) _ from hR)
              rw [e1] at hR
              clear hK3 htn e1
              repeat (first | (obtain ⟨x, tm', e, ht'⟩ := xAg ht; clear ht; subst e; have ht := ht'; clear ht') | (obtain ⟨tm', e, ht'⟩ := xAd ht; clear ht; subst e; have ht := ht'; clear ht'))
              obtain rfl := xAn ht
              clear ht
              go_wp2_with (first | (refine' xAb hR rfl rfl rfl ?_; clear hR; intro blk w hR) | (refine' xAa hR rfl rfl inferInstance ?_; clear hR; intro blk w hR) | (refine' aNq hR rfl rfl rfl ?_) | (refine' aOq hR rfl rfl rfl ?_) | (refine' aWq hR rfl rfl rfl rfl ?_; clear hR; intro w hR) | fail)
              exact hK.out (i + 1) _ _ ⟨hi1.out, hnext.out⟩ hmu.out (xAr rfl rfl rfl) hR.drop1.drop1
            · have htl : t < k := by omega
              have u1 : (t : Int) < (k : Int) := by omega
              have et : IntKind.i64.wrap ((t : Int) + 1) = ((t + 1 : Nat) : Int) := by rw [IntKind.wrap_i64]; omega
              have ht1 : t + 1 ≤ k := by omega
              have hmt : k - (t + 1) < k - t := by omega
              obtain ⟨o, ho⟩ : ∃ o, roF q k f V i t = o := ⟨_, rfl⟩
              have lo : o < q := by rw [← ho]; exact roF_lt h1 f V i t
              obtain ⟨y, hy⟩ : ∃ y, rpA q f i v k t = y := ⟨_, rfl⟩
              have ly : y < q := by rw [← hy]; exact rpA_lt h1 f i lv k t
              obtain ⟨z, hz⟩ : ∃ r, (o + y) % q = r := ⟨_, rfl⟩
              have row1 := rowsN_row (f := roG q k f V i t) htl
              have row2 := rowsN_row (f := rpA q f i v k) htl
              have eo : roG q k f V i t t = o := by unfold roG; rw [if_neg (Nat.lt_irrefl t), ho]
              rw [eo] at row1
              rw [hy] at row2
              have cl := fun w => rplus_lit (p := p) (g := g) (h := h) h1 hq lo ly hz w
              have hset : ∀ j, j < k → roG q k f V i (t + 1) j = if j = t then z else roG q k f V i t j := fun j hj => by
                unfold roG
                by_cases hjt : j = t
                · rw [hjt, if_pos (by omega), if_pos rfl, roF, ho, hvv.out, hy, hz]
                · rw [if_neg hjt]
                  by_cases h2 : j < t
                  · rw [if_pos (by omega), if_pos h2]
                  · rw [if_neg (by omega), if_neg h2]
              replace ht1 := Held.mk ht1
              replace hmt := Held.mk hmt
              replace hset := Held.mk hset
              replace htl := Held.mk htl
              clear htn htt ho hy hz lo ly eo hK
              repeat (first | (obtain ⟨x, tm', e, ht'⟩ := xAg ht; clear ht; subst e; have ht := ht'; clear ht') | (obtain ⟨tm', e, ht'⟩ := xAd ht; clear ht; subst e; have ht := ht'; clear ht'))
              obtain rfl := xAn ht
              clear ht
              go_wp2_with (first | (refine' xAb hR rfl rfl rfl ?_; clear hR; intro blk w hR) | (refine' xAa hR rfl rfl inferInstance ?_; clear hR; intro blk w hR) | (refine' aNq hR rfl rfl rfl ?_) | (refine' aOq hR rfl rfl rfl ?_) | (refine' aWq hR rfl rfl rfl rfl ?_; clear hR; intro w hR) | fail)
              refine xAi hR [0, 0, 0, 0, 0, 0, 0, 0, 0, 0, 0, 0, 0, 2] [] xBt (by kernel_rfl) rfl rfl (fun K hK => ?_)
              clear hR
              repeat ((first | (refine xBa ?_) | (refine' xAm (by decide) rfl (.inl rfl) rfl ?ha ?_) | (refine' xAm (by decide) rfl (.inr rfl) rfl ?ha ?_) | (refine' aQq rfl rfl rfl ?ha ?_) | (refine' aRq rfl rfl rfl ?ha ?_) | (refine' aSq rfl rfl rfl ?ha ?_) | (refine' aTq rfl rfl rfl ?ha ?_) | (refine' aUq rfl rfl rfl ?ha ?_) | ((first | refine' xAf (by decide) rfl rfl rfl rfl (fun w => ?hq) ?ha ?_ | refine' xAv (by decide) rfl rfl rfl rfl (fun w => ?hq) ?ha ?_ | refine' xAj (by decide) rfl rfl rfl (fun w => ?hq) ?ha ?_ | refine' xAe (by decide) rfl rfl rfl (fun w => ?hq) ?ha ?_ | refine' xAk (by decide) rfl rfl rfl (fun w => ?hq) ?ha ?_ | refine' xAu (by decide) rfl rfl rfl rfl (fun w => ?hq) ?ha ?_ | refine' xAt (by decide) rfl rfl rfl rfl rfl rfl (fun w => ?hq) ?ha ?_ | refine' xAs (by decide) rfl rfl (fun w => ?hq) ?ha ?_ | refine' xAl (by decide) rfl rfl rfl (fun w => ?hq) ?ha ?_ | refine' xAw (by decide) rfl rfl rfl (fun w => ?hq) ?ha ?_); (case hq => go_simp; try rfl)) | (refine' xAh (by decide) rfl rfl rfl ?ha ?_) | (refine' xBb (by decide) rfl rfl rfl rfl ?ha ?_) | (refine' xAz (by decide) rfl ?ha ?_) | (refine' xBd rfl rfl rfl (xBc Tryz.func43 (by kernel_rfl) (by kernel_rfl) _) (fun w => cl w) ?ha ?_)); try (case ha => simp only [kP, kQ, kA, kB]; try rfl))
              refine xBg (hK _ _ ?_)
              clear hK K
              refine xBj (fun Q hQ => ?_)
              try simp only [List.nil_append, List.cons_append]
              try simp only [kP, kQ, kA, kB]
              refine tl_y (xCx (t := 24) (i := t) (n := k) (v := z) (f := roG q k f V i t) (f' := roG q k f V i (t + 1)) rfl rfl rfl rfl htl.out hset.out (.tail (.tail .head))) (fun p hp => absurd hp List.not_mem_nil) rfl ?_
              refine xBi (fun w hR => hQ _ _ ?_)
              clear hQ Q
              go_wp2_with (first | (refine' xAb hR rfl rfl rfl ?_; clear hR; intro blk w hR) | (refine' xAa hR rfl rfl inferInstance ?_; clear hR; intro blk w hR) | (refine' aNq hR rfl rfl rfl ?_) | (refine' aOq hR rfl rfl rfl ?_) | (refine' aWq hR rfl rfl rfl rfl ?_; clear hR; intro w hR) | fail)
              exact hK3.out (t + 1) _ _ ht1.out hmt.out (xAr rfl rfl rfl) hR
        have hkl : k < n := by omega
        have u1 : (k : Int) < (n : Int) := by omega
        have ek : IntKind.i64.wrap ((k : Int) + 1) = ((k + 1 : Nat) : Int) := by rw [IntKind.wrap_i64]; omega
        have hk1 : k + 1 ≤ n := by omega
        have hmk' : n - (k + 1) < n - k := by omega
        replace hk1 := Held.mk hk1
        replace hmk' := Held.mk hmk'
        by_cases hki : k = i
        · subst hki
          have c2 : ((k : Int) == (k : Int)) = true := by simp
          have ep : xBu (rpA q f k v (k + 1)) n = xBu (rpA q f k v k) n := xBq fun j hj => by rw [rpA, if_pos rfl]
          replace ep := Held.mk ep
          clear hK hk hkn hkl hmk ei
          repeat (first | (obtain ⟨x, tm', e, ht'⟩ := xAg ht; clear ht; subst e; have ht := ht'; clear ht') | (obtain ⟨tm', e, ht'⟩ := xAd ht; clear ht; subst e; have ht := ht'; clear ht'))
          obtain rfl := xAn ht
          clear ht
          go_wp2_with (first | (refine' xAb hR rfl rfl rfl ?_; clear hR; intro blk w hR) | (refine' xAa hR rfl rfl inferInstance ?_; clear hR; intro blk w hR) | (refine' aNq hR rfl rfl rfl ?_) | (refine' aOq hR rfl rfl rfl ?_) | (refine' aWq hR rfl rfl rfl rfl ?_; clear hR; intro w hR) | fail)
          refine hK2.out (k + 1) _ _ hk1.out hmk'.out (xAr rfl rfl rfl) ?_
          rw [ep.out]
          exact hR
        · have c1 : ¬ (k : Int) = (i : Int) := by omega
          have c2 : ((k : Int) == (i : Int)) = false := by simp; omega
          have lb := hf.out k hkl
          obtain ⟨xv, hxe⟩ : ∃ z, f k = z := ⟨_, rfl⟩
          have ldx := fun (L : List (Nat × Obj)) (w : World) (hw : Rep B0 w0 L w) => xBr (hxx.out w (hw.weaken (List.nil_sublist _)) k hkl)
          rw [hxe] at ldx lb
          have en : IntKind.i64.wrap ((n : Int) - 1) = (n : Int) - 1 := by rw [IntKind.wrap_i64]; omega
          have e1 : xBu (rpA q f i v k) n = xBu (rpG q f i v k n) n := xBq fun j hj => by unfold rpG; rw [if_pos hj]
          replace hR := (show Rep _ _ ((pb, .cells (xBu (rpA q f i v k) n).toArray 24) :: _) _ from hR)
          rw [e1] at hR
          clear hK hk hmk ei e1
          repeat (first | (obtain ⟨x, tm', e, ht'⟩ := xAg ht; clear ht; subst e; have ht := ht'; clear ht') | (obtain ⟨tm', e, ht'⟩ := xAd ht; clear ht; subst e; have ht := ht'; clear ht'))
          obtain rfl := xAn ht
          clear ht
          go_wp2_with (first | (refine' xAb hR rfl rfl rfl ?_; clear hR; intro blk w hR) | (refine' xAa hR rfl rfl inferInstance ?_; clear hR; intro blk w hR) | (refine' aNq hR rfl rfl rfl ?_) | (refine' aOq hR rfl rfl rfl ?_) | (refine' aWq hR rfl rfl rfl rfl ?_; clear hR; intro w hR) | fail)
          clear en
          try simp only [Act.put, kA, kB, List.setIfInBounds_toArray]
          refine' xBm (false :: false :: false :: false :: false :: false :: false :: false :: false :: false :: false :: false :: false :: false :: false :: true :: false :: false :: false :: false :: false :: false :: false :: false :: false :: false :: false :: false :: false :: false :: false :: false :: false :: false :: false :: false :: false :: false :: false :: false :: false :: false :: false :: false :: false :: false :: false :: false :: false :: false :: false :: false :: false :: false :: false :: false :: false :: false :: false :: false :: false :: false :: false :: false :: false :: false :: false :: false :: false :: false :: false :: false :: false :: false :: false :: false :: true :: true :: true :: true :: true :: true :: true :: true :: true :: true :: true :: true :: true :: true :: true :: true :: true :: true :: true :: true :: true :: true :: true :: true :: true :: true :: true :: true :: true :: true :: true :: false :: false :: false :: false :: false :: false :: false :: false :: false :: false :: false :: false :: false :: false :: false :: false :: false :: false :: false :: false :: []) (fun (m : Nat) l => l.set 14 (.int .i64 ((m : Int) - 1))) (fun m => (pb, .cells (xBu (rpG q f i v k m) n).toArray 24) :: (b10, .cells (nl r).toArray 24) :: (gb, .cells (xBu (roF q n f V i) n).toArray 24) :: (b3, .cells (gl p q g h).toArray 26) :: L) (fun m => m) (fun m => m ≤ n) n ?x0 ?xO ?xR ?xs
          case x0 => exact xAr rfl rfl rfl
          case xO => exact Nat.le_refl _
          case xR => exact hR
          case xs =>
            clear hR
            intro m tm w hmn ht hR K3 hK3
            by_cases hm0 : m = 0
            · subst hm0
              have t1 : ¬ (0 : Int) ≤ -1 := by omega
              have e1 : xBu (rpG q f i v k 0) n = xBu (rpA q f i v (k + 1)) n := xBq fun j hj => by unfold rpG; rw [if_neg (by omega)]
              replace hR := (show Rep _ _ ((pb, .cells (xBu (rpG q f i v k 0) n).toArray 24) :: _) _ from hR)
              rw [e1] at hR
              simp only [show ((0 : Nat) : Int) - 1 = -1 from rfl] at ht
              clear hK3 hmn e1
              repeat (first | (obtain ⟨x, tm', e, ht'⟩ := xAg ht; clear ht; subst e; have ht := ht'; clear ht') | (obtain ⟨tm', e, ht'⟩ := xAd ht; clear ht; subst e; have ht := ht'; clear ht'))
              obtain rfl := xAn ht
              clear ht
              go_wp2_with (first | (refine' xAb hR rfl rfl rfl ?_; clear hR; intro blk w hR) | (refine' xAa hR rfl rfl inferInstance ?_; clear hR; intro blk w hR) | (refine' aNq hR rfl rfl rfl ?_) | (refine' aOq hR rfl rfl rfl ?_) | (refine' aWq hR rfl rfl rfl rfl ?_; clear hR; intro w hR) | fail)
              exact hK2.out (k + 1) _ _ hk1.out hmk'.out (xAr rfl rfl rfl) hR
            obtain ⟨d, hd⟩ : ∃ d, m = d + 1 := ⟨m - 1, by omega⟩
            subst hd
            have hdn : d < n := by omega
            have ed : ((d + 1 : Nat) : Int) - 1 = (d : Int) := by omega
            have d0 : 0 ≤ (d : Int) := by omega
            have d1 : (d : Int) < (n : Int) := by omega
            have ew : IntKind.i64.wrap ((d : Int) - 1) = (d : Int) - 1 := by rw [IntKind.wrap_i64]; omega
            obtain ⟨y, hy⟩ : ∃ y, rpA q f i v k d = y := ⟨_, rfl⟩
            have ly : y < q := by rw [← hy]; exact rpA_lt h1 f i lv k d
            have row1 := rowsN_row (f := rpG q f i v k (d + 1)) hdn
            have eo : rpG q f i v k (d + 1) d = y := by unfold rpG; rw [if_pos (by omega), hy]
            rw [eo] at row1
            obtain ⟨z, hz⟩ : ∃ z, mulN y xv q = z := ⟨_, rfl⟩
            have lz : z < q := by rw [← hz]; exact mul_lt' h1 _ _
            obtain ⟨n00, h00⟩ : ∃ n, n = 0 := ⟨_, rfl⟩
            obtain ⟨s, hs⟩ : ∃ s, subN n00 z q = s := ⟨_, rfl⟩
            have ls : s < q := by rw [← hs, xCk]; exact Nat.mod_lt _ (by omega)
            have ct := fun w => rtimes_lit (p := p) (g := g) (h := h) h1 hq ly lb hz w
            have cl := fun w => rless_lit (p := p) (g := g) (h := h) h1 hq (show n00 < q by omega) lz hs w
            rw [show num n00 = Value.agg #[.int .u64 0, .int .u64 0, .int .u64 0, .int .u64 0] by rw [h00]; exact xBs.symm] at cl
            rw [h00] at hs
            obtain ⟨u, hu⟩ : ∃ u, rpA q f i v (k + 1) d = u := ⟨_, rfl⟩
            have hset : ∀ j, j < n → rpG q f i v k d j = if j = d then u else rpG q f i v k (d + 1) j := fun j hj => by
              unfold rpG
              by_cases hjd : j = d
              · rw [hjd, if_neg (by omega), if_pos rfl, hu]
              · rw [if_neg hjd]
                by_cases h2 : j < d
                · rw [if_pos h2, if_pos (by omega)]
                · rw [if_neg h2, if_neg (by omega)]
            have hdn1 : d ≤ n := by omega
            have hmd : d < d + 1 := by omega
            replace hset := Held.mk hset
            replace hdn1 := Held.mk hdn1
            replace hmd := Held.mk hmd
            rw [ed] at ht
            by_cases hd0 : d = 0
            · have v1 : ¬ (0 : Int) < (d : Int) := by omega
              have v2 : decide ((0 : Int) < (d : Int)) = false := decide_eq_false v1
              have hu2 : s = u := by rw [← hu, rpA, if_neg hki, if_pos hd0, hy, hxe, hz, hs]
              subst hu2
              replace hdn := Held.mk hdn
              clear hK2 hmn hm0 hy ly eo hz lz h00 hs ls hu hd0 ed
              repeat (first | (obtain ⟨x, tm', e, ht'⟩ := xAg ht; clear ht; subst e; have ht := ht'; clear ht') | (obtain ⟨tm', e, ht'⟩ := xAd ht; clear ht; subst e; have ht := ht'; clear ht'))
              obtain rfl := xAn ht
              clear ht
              go_wp2_with (first | (refine' xAb hR rfl rfl rfl ?_; clear hR; intro blk w hR) | (refine' xAa hR rfl rfl inferInstance ?_; clear hR; intro blk w hR) | (refine' aNq hR rfl rfl rfl ?_) | (refine' aOq hR rfl rfl rfl ?_) | (refine' aWq hR rfl rfl rfl rfl ?_; clear hR; intro w hR) | fail)
              refine' xBx hR [1, 1, 1, 1, 1, 1, 1, 1, 1, 1, 1, 1, 1, 2, 2] 13 15 _ _ [14] xBt (by kernel_rfl) rfl rfl rfl rfl rfl (isAlloc rfl rfl ?z1) ?_
              case z1 => exact inferInstance
              intro K hK
              clear hR
              repeat ((first | (refine' hd_loadKP rfl rfl rfl ldx ?ha ?_) | (refine xBa ?_) | (refine' xAm (by decide) rfl (.inl rfl) rfl ?ha ?_) | (refine' xAm (by decide) rfl (.inr rfl) rfl ?ha ?_) | (refine' aQq rfl rfl rfl ?ha ?_) | (refine' aRq rfl rfl rfl ?ha ?_) | (refine' aSq rfl rfl rfl ?ha ?_) | (refine' xCi rfl rfl rfl inferInstance ?hm ?hn ?ha ?_; (case hm => first | with_reducible assumption | repeat (first | exact .head _ | with_reducible assumption | apply mC)); (case hn => first | rfl | simp)) | (refine' aTq rfl rfl rfl ?ha ?_) | (refine' aUq rfl rfl rfl ?ha ?_) | ((first | refine' xAf (by decide) rfl rfl rfl rfl (fun w => ?hq) ?ha ?_ | refine' xAv (by decide) rfl rfl rfl rfl (fun w => ?hq) ?ha ?_ | refine' xAj (by decide) rfl rfl rfl (fun w => ?hq) ?ha ?_ | refine' xAe (by decide) rfl rfl rfl (fun w => ?hq) ?ha ?_ | refine' xAk (by decide) rfl rfl rfl (fun w => ?hq) ?ha ?_ | refine' xAu (by decide) rfl rfl rfl rfl (fun w => ?hq) ?ha ?_ | refine' xAt (by decide) rfl rfl rfl rfl rfl rfl (fun w => ?hq) ?ha ?_ | refine' xAs (by decide) rfl rfl (fun w => ?hq) ?ha ?_ | refine' xAl (by decide) rfl rfl rfl (fun w => ?hq) ?ha ?_ | refine' xAw (by decide) rfl rfl rfl (fun w => ?hq) ?ha ?_); (case hq => go_simp; try rfl)) | (refine' xAh (by decide) rfl rfl rfl ?ha ?_) | (refine' xBb (by decide) rfl rfl rfl rfl ?ha ?_) | (refine' xAz (by decide) rfl ?ha ?_) | (refine' xBy rfl rfl rfl (xBc Tryz.func44 (by kernel_rfl) (by kernel_rfl) _) (fun w => ct w) ?ha ?_) | (refine' xBy rfl rfl rfl (xBc Tryz.func47 (by kernel_rfl) (by kernel_rfl) _) (fun w => cl w) ?ha ?_)); try (case ha => simp only [kP, kQ, kA, kB]; try rfl))
              try simp only [List.nil_append, List.cons_append]
              refine xBg (hK _ _ (fun _ => ?_))
              clear hK K
              refine xBj (fun Q hQ => ?_)
              simp only [kP, kQ, kA, kB]
              repeat ((first | refine' xAq rfl (.inl rfl) rfl ?hk ?ha ?_ | refine' xAq rfl (.inr rfl) rfl ?hk ?ha ?_ | (refine' aYq rfl rfl rfl rfl rfl rfl ?hk ?ha ?_) | (refine' aZq rfl rfl rfl rfl rfl ?hk ?ha ?_) | (refine' aAr rfl rfl rfl rfl rfl ?hk ?ha ?_) | (refine' xBe rfl (fun w => ?hq) ?hk ?ha ?_; (case hq => go_simp; try rfl))); (case hk => intro p hp; repeat (first | exact hp | apply mT)); (case ha => simp only [kP, kQ, kA, kB]; try rfl))
              refine xBi (fun w hR => hQ _ _ ?_)
              clear hQ Q
              go_wp2_with (first | (refine' xAb hR rfl rfl rfl ?_; clear hR; intro blk w hR) | (refine' xAa hR rfl rfl inferInstance ?_; clear hR; intro blk w hR) | (refine' aNq hR rfl rfl rfl ?_) | (refine' aOq hR rfl rfl rfl ?_) | (refine' aWq hR rfl rfl rfl rfl ?_; clear hR; intro w hR) | (refine' wpList_storeN (i := d) (n := n) (f := rpG q f i v k (d + 1)) (f' := rpG q f i v k d) hR rfl rfl rfl rfl hdn.out hset.out (.tail .head) ?_; clear hR; intro w hR))
              exact hK3.out d _ _ hdn1.out hmd.out (xAr rfl rfl rfl) hR.drop1
            · have v1 : (0 : Int) < (d : Int) := by omega
              have v2 : decide ((0 : Int) < (d : Int)) = true := decide_eq_true v1
              obtain ⟨e, he⟩ : ∃ e, d - 1 = e := ⟨_, rfl⟩
              have hde : (d : Int) - 1 = (e : Int) := by omega
              have ew2 : IntKind.i64.wrap ((d : Int) - 1) = (e : Int) := by rw [ew, hde]
              have d3 : 0 ≤ (e : Int) := by omega
              have d4 : (e : Int) < (n : Int) := by omega
              obtain ⟨y2, hy2⟩ : ∃ y, rpA q f i v k e = y := ⟨_, rfl⟩
              have ly2 : y2 < q := by rw [← hy2]; exact rpA_lt h1 f i lv k _
              have row2 := rowsN_row (f := rpG q f i v k (d + 1)) (show e < n by omega)
              have eo2 : rpG q f i v k (d + 1) e = y2 := by unfold rpG; rw [if_pos (by omega), hy2]
              rw [eo2] at row2
              have hu2 : (s + y2) % q = u := by rw [← hu, rpA, if_neg hki, if_neg hd0, he, hy, hxe, hz, hs, hy2]
              have cq := fun w => rplus_lit (p := p) (g := g) (h := h) h1 hq ls ly2 hu2 w
              replace hdn := Held.mk hdn
              replace hde := Held.mk hde
              clear hK2 hmn hm0 hy ly eo hz lz h00 hs ls hu hd0 ed hy2 ly2 eo2 hu2 he ew
              repeat (first | (obtain ⟨x, tm', e, ht'⟩ := xAg ht; clear ht; subst e; have ht := ht'; clear ht') | (obtain ⟨tm', e, ht'⟩ := xAd ht; clear ht; subst e; have ht := ht'; clear ht'))
              obtain rfl := xAn ht
              clear ht
              go_wp2_with (first | (refine' xAb hR rfl rfl rfl ?_; clear hR; intro blk w hR) | (refine' xAa hR rfl rfl inferInstance ?_; clear hR; intro blk w hR) | (refine' aNq hR rfl rfl rfl ?_) | (refine' aOq hR rfl rfl rfl ?_) | (refine' aWq hR rfl rfl rfl rfl ?_; clear hR; intro w hR) | fail)
              refine' xBx hR [1, 1, 1, 1, 1, 1, 1, 1, 1, 1, 1, 1, 1, 2, 2] 13 15 _ _ [14] xBt (by kernel_rfl) rfl rfl rfl rfl rfl (isAlloc rfl rfl ?z1) ?_
              case z1 => exact inferInstance
              intro K hK
              clear hR
              repeat ((first | (refine' hd_loadKP rfl rfl rfl ldx ?ha ?_) | (refine xBa ?_) | (refine' xAm (by decide) rfl (.inl rfl) rfl ?ha ?_) | (refine' xAm (by decide) rfl (.inr rfl) rfl ?ha ?_) | (refine' aQq rfl rfl rfl ?ha ?_) | (refine' aRq rfl rfl rfl ?ha ?_) | (refine' aSq rfl rfl rfl ?ha ?_) | (refine' xCi rfl rfl rfl inferInstance ?hm ?hn ?ha ?_; (case hm => first | with_reducible assumption | repeat (first | exact .head _ | with_reducible assumption | apply mC)); (case hn => first | rfl | simp)) | (refine' aTq rfl rfl rfl ?ha ?_) | (refine' aUq rfl rfl rfl ?ha ?_) | ((first | refine' xAf (by decide) rfl rfl rfl rfl (fun w => ?hq) ?ha ?_ | refine' xAv (by decide) rfl rfl rfl rfl (fun w => ?hq) ?ha ?_ | refine' xAj (by decide) rfl rfl rfl (fun w => ?hq) ?ha ?_ | refine' xAe (by decide) rfl rfl rfl (fun w => ?hq) ?ha ?_ | refine' xAk (by decide) rfl rfl rfl (fun w => ?hq) ?ha ?_ | refine' xAu (by decide) rfl rfl rfl rfl (fun w => ?hq) ?ha ?_ | refine' xAt (by decide) rfl rfl rfl rfl rfl rfl (fun w => ?hq) ?ha ?_ | refine' xAs (by decide) rfl rfl (fun w => ?hq) ?ha ?_ | refine' xAl (by decide) rfl rfl rfl (fun w => ?hq) ?ha ?_ | refine' xAw (by decide) rfl rfl rfl (fun w => ?hq) ?ha ?_); (case hq => go_simp; try rfl)) | (refine' xAh (by decide) rfl rfl rfl ?ha ?_) | (refine' xBb (by decide) rfl rfl rfl rfl ?ha ?_) | (refine' xAz (by decide) rfl ?ha ?_) | (refine' xBy rfl rfl rfl (xBc Tryz.func44 (by kernel_rfl) (by kernel_rfl) _) (fun w => ct w) ?ha ?_) | (refine' xBy rfl rfl rfl (xBc Tryz.func47 (by kernel_rfl) (by kernel_rfl) _) (fun w => cl w) ?ha ?_)); try (case ha => simp only [kP, kQ, kA, kB]; try rfl))
              try simp only [List.nil_append, List.cons_append]
              refine xBg (hK _ _ (fun _ => ?_))
              clear hK K
              refine xBj (fun Q hQ => ?_)
              simp only [kP, kQ, kA, kB]
              repeat ((first | refine' xAq rfl (.inl rfl) rfl ?hk ?ha ?_ | refine' xAq rfl (.inr rfl) rfl ?hk ?ha ?_ | (refine' aYq rfl rfl rfl rfl rfl rfl ?hk ?ha ?_) | (refine' aZq rfl rfl rfl rfl rfl ?hk ?ha ?_) | (refine' aAr rfl rfl rfl rfl rfl ?hk ?ha ?_) | (refine' xBe rfl (fun w => ?hq) ?hk ?ha ?_; (case hq => go_simp; try rfl))); (case hk => intro p hp; repeat (first | exact hp | apply mT)); (case ha => simp only [kP, kQ, kA, kB]; try rfl))
              refine xBi (fun w hR => hQ _ _ ?_)
              clear hQ Q
              go_wp2_with (first | (refine' xAb hR rfl rfl rfl ?_; clear hR; intro blk w hR) | (refine' xAa hR rfl rfl inferInstance ?_; clear hR; intro blk w hR) | (refine' aNq hR rfl rfl rfl ?_) | (refine' aOq hR rfl rfl rfl ?_) | (refine' aWq hR rfl rfl rfl rfl ?_; clear hR; intro w hR) | fail)
              refine xAi hR [0, 0, 0, 0, 0, 0, 0, 0, 2] [] xBt (by kernel_rfl) rfl rfl (fun K hK => ?_)
              clear hR
              repeat ((first | (refine xBa ?_) | (refine' xAm (by decide) rfl (.inl rfl) rfl ?ha ?_) | (refine' xAm (by decide) rfl (.inr rfl) rfl ?ha ?_) | (refine' aQq rfl rfl rfl ?ha ?_) | (refine' aRq rfl rfl rfl ?ha ?_) | (refine' aSq rfl rfl rfl ?ha ?_) | (refine' aTq rfl rfl rfl ?ha ?_) | (refine' aUq rfl rfl rfl ?ha ?_) | ((first | refine' xAf (by decide) rfl rfl rfl rfl (fun w => ?hq) ?ha ?_ | refine' xAv (by decide) rfl rfl rfl rfl (fun w => ?hq) ?ha ?_ | refine' xAj (by decide) rfl rfl rfl (fun w => ?hq) ?ha ?_ | refine' xAe (by decide) rfl rfl rfl (fun w => ?hq) ?ha ?_ | refine' xAk (by decide) rfl rfl rfl (fun w => ?hq) ?ha ?_ | refine' xAu (by decide) rfl rfl rfl rfl (fun w => ?hq) ?ha ?_ | refine' xAt (by decide) rfl rfl rfl rfl rfl rfl (fun w => ?hq) ?ha ?_ | refine' xAs (by decide) rfl rfl (fun w => ?hq) ?ha ?_ | refine' xAl (by decide) rfl rfl rfl (fun w => ?hq) ?ha ?_ | refine' xAw (by decide) rfl rfl rfl (fun w => ?hq) ?ha ?_); (case hq => go_simp; try rfl)) | (refine' xAh (by decide) rfl rfl rfl ?ha ?_) | (refine' xBb (by decide) rfl rfl rfl rfl ?ha ?_) | (refine' xAz (by decide) rfl ?ha ?_) | (refine' xBd rfl rfl rfl (xBc Tryz.func43 (by kernel_rfl) (by kernel_rfl) _) (fun w => cq w) ?ha ?_)); try (case ha => simp only [kP, kQ, kA, kB]; try rfl))
              refine xBg (hK _ _ ?_)
              clear hK K
              refine xBj (fun Q hQ => ?_)
              try simp only [List.nil_append, List.cons_append]
              repeat ((first | refine' xAq rfl (.inl rfl) rfl ?hk ?ha ?_ | refine' xAq rfl (.inr rfl) rfl ?hk ?ha ?_ | (refine' aYq rfl rfl rfl rfl rfl rfl ?hk ?ha ?_) | (refine' aZq rfl rfl rfl rfl rfl ?hk ?ha ?_) | (refine' aAr rfl rfl rfl rfl rfl ?hk ?ha ?_) | (refine' xBe rfl (fun w => ?hq) ?hk ?ha ?_; (case hq => go_simp; try rfl))); (case hk => intro p hp; first | exact absurd hp List.not_mem_nil | (obtain rfl := List.mem_singleton.1 hp; repeat (first | exact List.Mem.head _ | with_reducible assumption | apply mC))); (case ha => simp only [kP, kQ, kA, kB]; try rfl))
              refine xBi (fun w hR => hQ _ _ ?_)
              clear hQ Q
              go_wp2_with (first | (refine' xAb hR rfl rfl rfl ?_; clear hR; intro blk w hR) | (refine' xAa hR rfl rfl inferInstance ?_; clear hR; intro blk w hR) | (refine' aNq hR rfl rfl rfl ?_) | (refine' aOq hR rfl rfl rfl ?_) | (refine' aWq hR rfl rfl rfl rfl ?_; clear hR; intro w hR) | (refine' wpList_storeN (i := d) (n := n) (f := rpG q f i v k (d + 1)) (f' := rpG q f i v k d) hR rfl rfl rfl rfl hdn.out hset.out (.tail .head) ?_; clear hR; intro w hR))
              refine hK3.out d _ _ hdn1.out hmd.out ?_ hR.drop1
              show agree _ (List.set _ 14 (.int .i64 ((d : Int) - 1))) _
              rw [hde.out]
              exact xAr rfl rfl rfl
end
end Go.Proofs.YtaaahfjpnggkbaaGreatDoor
