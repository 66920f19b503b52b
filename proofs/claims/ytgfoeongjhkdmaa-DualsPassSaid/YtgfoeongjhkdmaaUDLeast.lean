/- The walk of balefirelaw12.DualsLeast. -/
import Derived.Test.YtgfoeongjhkdmaaUDuAlive
import Derived.Test.YtgfoeongjhkdmaaUT
import Derived.Test.YtgfoeongjhkdmaaUL
set_option linter.unusedVariables false
set_option linter.unusedSimpArgs false
namespace Go.Proofs.Ytgfoeongjhkdmaa
open Go.RowKit
attribute [local irreducible] Calls Instr.build Instr.buildSlice
section
variable {B0 : Nat} {w0 w W : World} {L : List (Nat × Obj)} {p q g h n cp k : Nat} {a : Option Addr} {f : Nat → Nat}
theorem fine12_rep (hp : p < B) (hq : q < B) (hg : g < B) (hh : h < B) (hA : NAt B0 w0 L a n cp f) (hn : n ≤ 1000) (s : Bool) (hs : s = true ↔ fineD p q g h n f) (hR : Rep B0 w0 L w) :
    Calls Try.prog 19 #[grp p q g h, .slice a n cp] w fun e w' => e = .returned (.bool s) ∧ Rep B0 w0 L w' :=
  (fine12_any hp hq hg hh (hA.here hR) hn s hs).mono fun e w' ⟨h1, h2⟩ => ⟨h1, hR.call h2⟩
theorem passes_fine (hp : p < B) (hq : q < B) (hg : g < B) (hf : fineD p q g h cp f) {b : Option Addr} {c : Nat} {l : Nat → Nat} (hA : NAt B0 w0 L b n c l) (hn1 : 1 ≤ n) (hn7 : n ≤ 7) (hk1 : 1 ≤ k) (hkn : k ≤ n) (s : Bool) (hh : s = true ↔ passD q n k l) (hR : Rep B0 w0 L w) :
    Calls Try.prog 21 #[grp p q g h, .slice b n c, .int .i64 (k : Int)] w fun e w' => e = .returned (.tuple #[.bool s, .int .i64 0]) ∧ Rep B0 w0 L w' := by
  obtain ⟨⟨_, _, _, hs, hG, _, hg1, _⟩, h7, _⟩ := hf
  haveI : NeZero q := ⟨by omega⟩
  exact passes_yes hp hq hg hG hs hg1 (dif_small hs (by omega)) hA hn1 hn7 hk1 hkn s (by rw [hh, passD_iff]) hR
end
set_option maxRecDepth 100000 in
set_option maxHeartbeats 8000000 in
set_option maxRecDepth 100000 in
theorem dleast_walk (W : World) (p q g h : Nat) (hp : p < B) (hq : q < B) (hg : g < B) (hh : h < B) (a : Option Addr) (n cp : Nat) (f : Nat → Nat) (S1 : NAt W.heap.size W [] a n cp f) :
    Calls Try.prog 8 #[grp p q g h, .slice a n cp] W fun e w' => e = .returned (.bool true) ∧ Below W.heap.size W w' := by
  classical
  have hR := Rep.init W
  by_cases h7 : n ≤ 7
  case neg =>
    have t1 : (7 : Int) < (n : Int) := by omega
    have t1d : decide ((7 : Int) < (n : Int)) = true := decide_eq_true t1
    clear S1 hp hq hg hh h7
    go_enter Try.func8, Try.ntmps8
    go_wp2_with (first | go_skip | (refine' xAb hR rfl rfl rfl ?_; clear hR; intro blk w hR) | (refine' xAa hR rfl rfl inferInstance ?_; clear hR; intro blk w hR) | (refine' aFq hR rfl rfl rfl inferInstance ?_) | (refine' aGq hR rfl rfl rfl inferInstance ?_) | (refine' aHq hR rfl rfl rfl inferInstance ?_) | (refine' aIq hR rfl rfl rfl inferInstance rfl ?_; clear hR; intro w hR) | (refine' aJq hR rfl rfl rfl inferInstance rfl rfl ?_; clear hR; intro w hR) | (refine' xAq hR rfl rfl rfl inferInstance ?hm ?hn ?_; (case hm => first | with_reducible assumption | repeat (first | exact .head _ | with_reducible assumption | apply mC)); (case hn => first | rfl | simp)) | (refine' xAh hR rfl rfl rfl inferInstance ?hm ?hv ?_; (case hm => first | with_reducible assumption | repeat (first | exact .head _ | with_reducible assumption | apply mC)); (case hv => first | rfl | with_reducible assumption)) | (refine' xAs hR rfl rfl rfl inferInstance ?hm ?hv ?hn ?_; (case hm => first | with_reducible assumption | repeat (first | exact .head _ | with_reducible assumption | apply mC)); (case hv => first | with_reducible assumption | (simp only [kC, kD, kE, kF]; try rfl)); (case hn => first | rfl | simp)) | (go_at_call 18; refine (alive12 _).mono ?_; rintro e w ⟨rfl, hb⟩; replace hR := hR.call hb; clear hb))
    go_ret
    exact ⟨rfl, hR.below⟩
  have t1 : ¬ (7 : Int) < (n : Int) := by omega
  have t1d : decide ((7 : Int) < (n : Int)) = false := decide_eq_false t1
  by_cases h0 : n = 0
  case pos =>
    subst h0
    clear S1 hp hq hg hh h7
    go_enter Try.func8, Try.ntmps8
    go_wp2_with (first | go_skip | (refine' xAb hR rfl rfl rfl ?_; clear hR; intro blk w hR) | (refine' xAa hR rfl rfl inferInstance ?_; clear hR; intro blk w hR) | (refine' aFq hR rfl rfl rfl inferInstance ?_) | (refine' aGq hR rfl rfl rfl inferInstance ?_) | (refine' aHq hR rfl rfl rfl inferInstance ?_) | (refine' aIq hR rfl rfl rfl inferInstance rfl ?_; clear hR; intro w hR) | (refine' aJq hR rfl rfl rfl inferInstance rfl rfl ?_; clear hR; intro w hR) | (refine' xAq hR rfl rfl rfl inferInstance ?hm ?hn ?_; (case hm => first | with_reducible assumption | repeat (first | exact .head _ | with_reducible assumption | apply mC)); (case hn => first | rfl | simp)) | (refine' xAh hR rfl rfl rfl inferInstance ?hm ?hv ?_; (case hm => first | with_reducible assumption | repeat (first | exact .head _ | with_reducible assumption | apply mC)); (case hv => first | rfl | with_reducible assumption)) | (refine' xAs hR rfl rfl rfl inferInstance ?hm ?hv ?hn ?_; (case hm => first | with_reducible assumption | repeat (first | exact .head _ | with_reducible assumption | apply mC)); (case hv => first | with_reducible assumption | (simp only [kC, kD, kE, kF]; try rfl)); (case hn => first | rfl | simp)) | (go_at_call 18; refine (alive12 _).mono ?_; rintro e w ⟨rfl, hb⟩; replace hR := hR.call hb; clear hb))
    go_ret
    exact ⟨rfl, hR.below⟩
  have z1 : ((n : Int) == 0) = false := by simp; omega
  have z2 : ¬ (n : Int) = 0 := by omega
  by_cases hf : fineD p q g h n f
  case neg =>
    have cF := fun (L : List (Nat × Obj)) (w : World) (hw : Rep W.heap.size W L w) => fine12_rep hp hq hg hh (S1.any (L := L)) (by omega) false ⟨fun hx => (by cases hx), fun hx => absurd hx hf⟩ hw
    clear S1 hp hq hg hh h7 hf h0
    go_enter Try.func8, Try.ntmps8
    go_wp2_with (first | go_skip | (refine' xAb hR rfl rfl rfl ?_; clear hR; intro blk w hR) | (refine' xAa hR rfl rfl inferInstance ?_; clear hR; intro blk w hR) | (refine' aFq hR rfl rfl rfl inferInstance ?_) | (refine' aGq hR rfl rfl rfl inferInstance ?_) | (refine' aHq hR rfl rfl rfl inferInstance ?_) | (refine' aIq hR rfl rfl rfl inferInstance rfl ?_; clear hR; intro w hR) | (refine' aJq hR rfl rfl rfl inferInstance rfl rfl ?_; clear hR; intro w hR) | (refine' xAq hR rfl rfl rfl inferInstance ?hm ?hn ?_; (case hm => first | with_reducible assumption | repeat (first | exact .head _ | with_reducible assumption | apply mC)); (case hn => first | rfl | simp)) | (refine' xAh hR rfl rfl rfl inferInstance ?hm ?hv ?_; (case hm => first | with_reducible assumption | repeat (first | exact .head _ | with_reducible assumption | apply mC)); (case hv => first | rfl | with_reducible assumption)) | (refine' xAs hR rfl rfl rfl inferInstance ?hm ?hv ?hn ?_; (case hm => first | with_reducible assumption | repeat (first | exact .head _ | with_reducible assumption | apply mC)); (case hv => first | with_reducible assumption | (simp only [kC, kD, kE, kF]; try rfl)); (case hn => first | rfl | simp)) | (go_at_call 18; refine (alive12 _).mono ?_; rintro e w ⟨rfl, hb⟩; replace hR := hR.call hb; clear hb) | (go_at_call 19; refine (cF _ _ hR).mono ?_; clear hR; rintro e w ⟨rfl, hR⟩))
    go_ret
    exact ⟨rfl, hR.below⟩
  have cF := fun (L : List (Nat × Obj)) (w : World) (hw : Rep W.heap.size W L w) => fine12_rep hp hq hg hh (S1.any (L := L)) (by omega) true ⟨fun _ => hf, fun _ => rfl⟩ hw
  have hs : xCk q := hf.1.2.2.2.1
  have q1 : 1 < q := hs.1
  have hd : difOK q n := dif_small hs (by have := hf.2.1; omega)
  replace S1 := Held.mk S1
  replace hf := Held.mk hf
  replace hd := Held.mk hd
  replace h7 := Held.mk h7
  replace h0 := Held.mk h0
  clear hs hh
  go_enter Try.func8, Try.ntmps8
  go_wp2_with (first | go_skip | (refine' xAb hR rfl rfl rfl ?_; clear hR; intro blk w hR) | (refine' xAa hR rfl rfl inferInstance ?_; clear hR; intro blk w hR) | (refine' aFq hR rfl rfl rfl inferInstance ?_) | (refine' aGq hR rfl rfl rfl inferInstance ?_) | (refine' aHq hR rfl rfl rfl inferInstance ?_) | (refine' aIq hR rfl rfl rfl inferInstance rfl ?_; clear hR; intro w hR) | (refine' aJq hR rfl rfl rfl inferInstance rfl rfl ?_; clear hR; intro w hR) | (refine' xAq hR rfl rfl rfl inferInstance ?hm ?hn ?_; (case hm => first | with_reducible assumption | repeat (first | exact .head _ | with_reducible assumption | apply mC)); (case hn => first | rfl | simp)) | (refine' xAh hR rfl rfl rfl inferInstance ?hm ?hv ?_; (case hm => first | with_reducible assumption | repeat (first | exact .head _ | with_reducible assumption | apply mC)); (case hv => first | rfl | with_reducible assumption)) | (refine' xAs hR rfl rfl rfl inferInstance ?hm ?hv ?hn ?_; (case hm => first | with_reducible assumption | repeat (first | exact .head _ | with_reducible assumption | apply mC)); (case hv => first | with_reducible assumption | (simp only [kC, kD, kE, kF]; try rfl)); (case hn => first | rfl | simp)) | (go_at_call 18; refine (alive12 _).mono ?_; rintro e w ⟨rfl, hb⟩; replace hR := hR.call hb; clear hb) | (go_at_call 19; refine (cF _ _ hR).mono ?_; clear hR; rintro e w ⟨rfl, hR⟩))
  clear cF t1 t1d z1 z2
  obtain ⟨b2, hb_⟩ : ∃ y, y = blk := ⟨_, rfl⟩
  subst hb_
  try simp only [Act.put, kA, kB, List.setIfInBounds_toArray]
  refine' xBt (false :: false :: false :: false :: false :: false :: false :: false :: false :: false :: false :: false :: false :: false :: false :: false :: false :: false :: false :: false :: false :: false :: false :: false :: false :: false :: false :: false :: false :: false :: false :: false :: false :: true :: true :: true :: true :: true :: true :: true :: true :: true :: true :: true :: true :: false :: false :: false :: false :: false :: false :: false :: false :: false :: false :: false :: false :: false :: false :: false :: false :: false :: false :: false :: false :: false :: false :: false :: false :: false :: false :: false :: false :: false :: false :: false :: false :: false :: false :: false :: false :: false :: false :: false :: false :: false :: false :: false :: false :: false :: []) (fun (v : Nat × GrN) l => (l.set 5 (.slice v.2.a v.1 v.2.cap)).set 6 (.int .i64 ((v.1 : Int) + 1))) (fun v => (b2, .cells (gl p q g h).toArray 26) :: v.2.bl) (fun v => n - v.1) (fun v => v.1 ≤ n ∧ GrNOk v.2 v.1 (ptF q)) (0, ⟨none, 0, []⟩) ?h0 ?hO ?hR ?hs
  case h0 => exact xBh rfl rfl rfl
  case hO => exact ⟨Nat.zero_le _, grN_zero _⟩
  case hR => exact hR
  case hs =>
    clear hR
    intro v tm w hO ht hR K hK
    obtain ⟨i, X0⟩ := v
    obtain ⟨hi, hX⟩ := hO
    simp only at hi hX ht hR
    have g0 : 0 ≤ (i : Int) := by omega
    by_cases hik : i = n
    case neg =>
      have u1 : (i : Int) + 1 ≤ (n : Int) := by omega
      have ei : IntKind.i64.wrap ((i : Int) + 1 + 1) = (i : Int) + 1 + 1 := by have := h7.out; rw [IntKind.wrap_i64]; omega
      have ek : ((i + 1 : Nat) : Int) = (i : Int) + 1 := by omega
      have hi1 : i + 1 ≤ n := by omega
      have hmu : n - (i + 1) < n - i := by omega
      have hbig : i ≤ 1000000 := by have := h7.out; omega
      obtain ⟨x0, hx0⟩ : ∃ x, ptF q i = x := ⟨_, rfl⟩
      have cO := SO (p := p) (g := g) (h := h) (n := (i : Int) + 1) hq (by omega) (by have := h7.out; omega) hx0
      replace hx0 := Held.mk hx0
      replace hi1 := Held.mk hi1
      replace hmu := Held.mk hmu
      replace ek := Held.mk ek
      clear hi hik
      repeat (first | (obtain ⟨x, tm', e, ht'⟩ := xAu ht; clear ht; subst e; have ht := ht'; clear ht') | (obtain ⟨tm', e, ht'⟩ := xAj ht; clear ht; subst e; have ht := ht'; clear ht'))
      obtain rfl := xAz ht
      clear ht
      go_wp2_with (first | (refine' xAb hR rfl rfl rfl ?_; clear hR; intro blk w hR) | (refine' xAa hR rfl rfl inferInstance ?_; clear hR; intro blk w hR) | (refine' aFq hR rfl rfl rfl inferInstance ?_) | (refine' aGq hR rfl rfl rfl inferInstance ?_) | (refine' aHq hR rfl rfl rfl inferInstance ?_) | (refine' aIq hR rfl rfl rfl inferInstance rfl ?_; clear hR; intro w hR) | (refine' aJq hR rfl rfl rfl inferInstance rfl rfl ?_; clear hR; intro w hR) | (go_at_call 13; refine (cO _).mono ?_; rintro e w ⟨rfl, hb⟩; replace hR := hR.call hb; clear hb) | (refine' wpList_new hR (xCu rfl rfl rfl) ?_; clear hR; intro bt w hR) | (refine' wpList_appendN (L' := fun l => (b2, .cells (gl p q g h).toArray 26) :: l) hR (fun l => List.perm_append_comm (l₁ := [_])) rfl rfl rfl rfl hX hx0.out hbig ?_; clear hR hX; intro X1 w hX hR))
      exact hK.out (i + 1, X1) _ _ ⟨hi1.out, hX⟩ hmu.out (by simp only [ek.out]; exact xBh rfl rfl rfl) hR
    subst hik
    clear hK
    have u1 : ¬ (i : Int) + 1 ≤ (i : Int) := by omega
    have cT := fun (w : World) (hw : Rep W.heap.size W ((b2, .cells (gl p q g h).toArray 26) :: X0.bl) w) => through_yes (g := g) (h := h) hp hq (by have := h7.out; omega) (grN_nat hX (fun j _ => Nat.lt_trans (ptF_lt q1 j) hq) (fun x hx => .tail _ hx)) (S1.out.any (L := (b2, .cells (gl p q g h).toArray 26) :: X0.bl)) (⟨dif_pts q1 hd.out (by have := h0.out; omega), rfl, hf.out.2.2⟩ : okT q i i (ptF q) f) (dif_wtE' q1 hd.out) hw
    replace hX := Held.mk hX
    repeat (first | (obtain ⟨x, tm', e, ht'⟩ := xAu ht; clear ht; subst e; have ht := ht'; clear ht') | (obtain ⟨tm', e, ht'⟩ := xAj ht; clear ht; subst e; have ht := ht'; clear ht'))
    obtain rfl := xAz ht
    clear ht
    go_wp2_with (first | (refine' xAb hR rfl rfl rfl ?_; clear hR; intro blk w hR) | (refine' xAa hR rfl rfl inferInstance ?_; clear hR; intro blk w hR) | (refine' aFq hR rfl rfl rfl inferInstance ?_) | (refine' aGq hR rfl rfl rfl inferInstance ?_) | (refine' aHq hR rfl rfl rfl inferInstance ?_) | (refine' aIq hR rfl rfl rfl inferInstance rfl ?_; clear hR; intro w hR) | (refine' aJq hR rfl rfl rfl inferInstance rfl rfl ?_; clear hR; intro w hR) | (go_at_call 11; refine (cT _ hR).mono ?_; clear hR; rintro e w ⟨gb, rfl, cur, ho, hR⟩; replace ho := Held.mk ho))
    clear cT
    obtain ⟨P, hP⟩ : ∃ P, outF q i (ptF q) f i = P := ⟨_, rfl⟩
    rw [hP] at ho
    have lP : ∀ j, P j < B := fun j => by rw [← hP]; exact Nat.lt_trans (outF_lt q1 i j) hq
    replace hP := Held.mk hP
    replace lP := Held.mk lP
    try simp only [Act.put, kA, kB, List.setIfInBounds_toArray]
    refine' xBt (false :: false :: false :: false :: false :: false :: false :: false :: false :: false :: false :: false :: false :: false :: false :: false :: false :: false :: false :: false :: false :: false :: false :: false :: false :: false :: false :: false :: false :: false :: false :: false :: false :: false :: false :: false :: false :: false :: false :: false :: false :: false :: false :: false :: false :: false :: false :: false :: false :: false :: false :: false :: true :: true :: true :: true :: true :: true :: true :: true :: true :: true :: true :: true :: true :: true :: false :: false :: false :: false :: false :: false :: false :: false :: false :: false :: false :: false :: false :: false :: false :: false :: false :: false :: false :: false :: false :: false :: false :: false :: []) (fun (j : Nat) l => (l.set 9 (.int .i64 (lsN P j : Int))).set 10 (.int .i64 (j : Int))) (fun j => (gb, .cells cur.toArray 24) :: (b2, .cells (gl p q g h).toArray 26) :: X0.bl) (fun j => i - j) (fun j => j ≤ i) 0 ?q0 ?qO ?qR ?qs
    case q0 => exact xBh rfl rfl rfl
    case qO => exact Nat.zero_le _
    case qR => exact hR
    case qs =>
      clear hR
      intro j tm w hj ht hR K hK
      have j0 : 0 ≤ (j : Int) := by omega
      by_cases hji : j = i
      case neg =>
        have v1 : (j : Int) < (i : Int) := by omega
        have hrow := ho.out.row (show j < i by omega)
        have ej : IntKind.i64.wrap ((j : Int) + 1) = (j : Int) + 1 := by have := h7.out; rw [IntKind.wrap_i64]; omega
        have ek : ((j + 1 : Nat) : Int) = (j : Int) + 1 := by omega
        have hj1 : j + 1 ≤ i := by omega
        have hmu : i - (j + 1) < i - j := by omega
        have hl1 := lP.out j
        obtain ⟨pj, hpj⟩ : ∃ x, P j = x := ⟨_, rfl⟩
        have hls : lsN P (j + 1) = if pj = 0 then lsN P j else j + 1 := by rw [lsN, hpj]
        rw [hpj] at hrow hl1
        obtain ⟨l0, hl0⟩ : ∃ x, lsN P j = x := ⟨_, rfl⟩
        rw [hl0] at ht hls
        replace hj1 := Held.mk hj1
        replace hmu := Held.mk hmu
        replace ek := Held.mk ek
        clear hj hji hpj hl0
        by_cases hp0 : pj = 0
        · rw [if_pos hp0] at hls
          have e0 : eqN pj 0 = true := eqN_yes hp0
          replace hls := Held.mk hls
          clear hp0 hl1
          repeat (first | (obtain ⟨x, tm', e, ht'⟩ := xAu ht; clear ht; subst e; have ht := ht'; clear ht') | (obtain ⟨tm', e, ht'⟩ := xAj ht; clear ht; subst e; have ht := ht'; clear ht'))
          obtain rfl := xAz ht
          clear ht
          go_wp2_with (first | (refine' xAb hR rfl rfl rfl ?_; clear hR; intro blk w hR) | (refine' xAa hR rfl rfl inferInstance ?_; clear hR; intro blk w hR) | (refine' aFq hR rfl rfl rfl inferInstance ?_) | (refine' aGq hR rfl rfl rfl inferInstance ?_) | (refine' aHq hR rfl rfl rfl inferInstance ?_) | (refine' aIq hR rfl rfl rfl inferInstance rfl ?_; clear hR; intro w hR) | (refine' aJq hR rfl rfl rfl inferInstance rfl rfl ?_; clear hR; intro w hR) | (refine' xCh rfl rfl build_Z ?_))
          exact hK.out (j + 1) _ _ hj1.out hmu.out (by simp only [ek.out, hls.out]; exact xBh rfl rfl rfl) hR
        · rw [if_neg hp0] at hls
          have e0 : eqN pj 0 = false := eqN_no hl1 B_pos hp0
          replace hls := Held.mk hls
          clear hp0 hl1
          repeat (first | (obtain ⟨x, tm', e, ht'⟩ := xAu ht; clear ht; subst e; have ht := ht'; clear ht') | (obtain ⟨tm', e, ht'⟩ := xAj ht; clear ht; subst e; have ht := ht'; clear ht'))
          obtain rfl := xAz ht
          clear ht
          go_wp2_with (first | (refine' xAb hR rfl rfl rfl ?_; clear hR; intro blk w hR) | (refine' xAa hR rfl rfl inferInstance ?_; clear hR; intro blk w hR) | (refine' aFq hR rfl rfl rfl inferInstance ?_) | (refine' aGq hR rfl rfl rfl inferInstance ?_) | (refine' aHq hR rfl rfl rfl inferInstance ?_) | (refine' aIq hR rfl rfl rfl inferInstance rfl ?_; clear hR; intro w hR) | (refine' aJq hR rfl rfl rfl inferInstance rfl rfl ?_; clear hR; intro w hR) | (refine' xCh rfl rfl build_Z ?_))
          exact hK.out (j + 1) _ _ hj1.out hmu.out (by simp only [ek.out, hls.out]; exact xBh rfl rfl rfl) hR
      rw [hji] at ht
      clear hK hj hji j0 j
      have v1 : ¬ (i : Int) < (i : Int) := by omega
      obtain ⟨ls, hls⟩ : ∃ x, lsN P i = x := ⟨_, rfl⟩
      rw [hls] at ht
      replace hls := Held.mk hls
      repeat (first | (obtain ⟨x, tm', e, ht'⟩ := xAu ht; clear ht; subst e; have ht := ht'; clear ht') | (obtain ⟨tm', e, ht'⟩ := xAj ht; clear ht; subst e; have ht := ht'; clear ht'))
      obtain rfl := xAz ht
      clear ht
      go_wp2_with (first | (refine' xAb hR rfl rfl rfl ?_; clear hR; intro blk w hR) | (refine' xAa hR rfl rfl inferInstance ?_; clear hR; intro blk w hR) | (refine' aFq hR rfl rfl rfl inferInstance ?_) | (refine' aGq hR rfl rfl rfl inferInstance ?_) | (refine' aHq hR rfl rfl rfl inferInstance ?_) | (refine' aIq hR rfl rfl rfl inferInstance rfl ?_; clear hR; intro w hR) | (refine' aJq hR rfl rfl rfl inferInstance rfl rfl ?_; clear hR; intro w hR) | fail)
      try simp only [Act.put, kA, kB, List.setIfInBounds_toArray]
      refine' xBt (false :: false :: false :: false :: false :: false :: false :: false :: false :: false :: false :: false :: true :: true :: false :: false :: false :: false :: false :: false :: false :: false :: false :: false :: false :: false :: false :: false :: false :: false :: false :: false :: false :: false :: false :: false :: false :: false :: false :: false :: false :: false :: false :: false :: false :: false :: false :: false :: false :: false :: false :: false :: false :: false :: false :: false :: false :: false :: false :: false :: false :: false :: false :: false :: false :: false :: true :: true :: true :: true :: true :: true :: true :: true :: true :: true :: true :: true :: true :: true :: true :: true :: true :: true :: true :: true :: true :: true :: false :: false :: []) (fun (j : Nat) l => l.set 11 (.int .i64 ((j : Int) + 1))) (fun j => (gb, .cells cur.toArray 24) :: (b2, .cells (gl p q g h).toArray 26) :: X0.bl) (fun j => i - j) (fun j => j ≤ i) 0 ?r0 ?rO ?rR ?rs
      case r0 => exact xBh rfl rfl rfl
      case rO => exact Nat.zero_le _
      case rR => exact hR
      case rs =>
        clear hR
        intro j tm w hj ht hR K hK
        have j0 : 0 ≤ (j : Int) := by omega
        by_cases hji : j = i
        · rw [hji] at ht
          clear hK hj hji j0 j
          have v2 : ¬ (i : Int) + 1 ≤ (i : Int) := by omega
          repeat (first | (obtain ⟨x, tm', e, ht'⟩ := xAu ht; clear ht; subst e; have ht := ht'; clear ht') | (obtain ⟨tm', e, ht'⟩ := xAj ht; clear ht; subst e; have ht := ht'; clear ht'))
          obtain rfl := xAz ht
          clear ht
          go_wp2_with (first | (refine' xAb hR rfl rfl rfl ?_; clear hR; intro blk w hR) | (refine' xAa hR rfl rfl inferInstance ?_; clear hR; intro blk w hR) | (refine' aFq hR rfl rfl rfl inferInstance ?_) | (refine' aGq hR rfl rfl rfl inferInstance ?_) | (refine' aHq hR rfl rfl rfl inferInstance ?_) | (refine' aIq hR rfl rfl rfl inferInstance rfl ?_; clear hR; intro w hR) | (refine' aJq hR rfl rfl rfl inferInstance rfl rfl ?_; clear hR; intro w hR) | fail)
          go_ret
          exact ⟨rfl, hR.below⟩
        · have v2 : (j : Int) + 1 ≤ (i : Int) := by omega
          have ej : IntKind.i64.wrap ((j : Int) + 1 + 1) = (j : Int) + 1 + 1 := by have := h7.out; rw [IntKind.wrap_i64]; omega
          have ek : ((j + 1 : Nat) : Int) = (j : Int) + 1 := by omega
          have hj1 : j + 1 ≤ i := by omega
          have hmu : i - (j + 1) < i - j := by omega
          have hpass : passD q i (j + 1) f ↔ ls ≤ j + 1 := by rw [least_pass q1 hd.out (by omega) hj1, hP.out, hls.out]
          have cP := fun (s : Bool) (hs : s = true ↔ passD q i (j + 1) f) (w : World) (hw : Rep W.heap.size W ((gb, .cells cur.toArray 24) :: (b2, .cells (gl p q g h).toArray 26) :: X0.bl) w) => passes_fine hp hq hg hf.out (S1.out.any (L := (gb, .cells cur.toArray 24) :: (b2, .cells (gl p q g h).toArray 26) :: X0.bl)) (by have := h0.out; omega) h7.out (by omega) hj1 s hs hw
          rw [ek] at cP
          replace hj1 := Held.mk hj1
          replace hmu := Held.mk hmu
          replace ek := Held.mk ek
          clear hj hji
          by_cases hle : ls ≤ j + 1
          · have cP1 := cP true ⟨fun _ => hpass.2 hle, fun _ => rfl⟩
            have d1 : decide ((ls : Int) ≤ (j : Int) + 1) = true := decide_eq_true (by omega)
            have d2 : (ls : Int) ≤ (j : Int) + 1 := by omega
            clear cP hpass hle
            repeat (first | (obtain ⟨x, tm', e, ht'⟩ := xAu ht; clear ht; subst e; have ht := ht'; clear ht') | (obtain ⟨tm', e, ht'⟩ := xAj ht; clear ht; subst e; have ht := ht'; clear ht'))
            obtain rfl := xAz ht
            clear ht
            go_wp2_with (first | go_skip | (refine' xAb hR rfl rfl rfl ?_; clear hR; intro blk w hR) | (refine' xAa hR rfl rfl inferInstance ?_; clear hR; intro blk w hR) | (refine' aFq hR rfl rfl rfl inferInstance ?_) | (refine' aGq hR rfl rfl rfl inferInstance ?_) | (refine' aHq hR rfl rfl rfl inferInstance ?_) | (refine' aIq hR rfl rfl rfl inferInstance rfl ?_; clear hR; intro w hR) | (refine' aJq hR rfl rfl rfl inferInstance rfl rfl ?_; clear hR; intro w hR) | (refine' xAq hR rfl rfl rfl inferInstance ?hm ?hn ?_; (case hm => first | with_reducible assumption | repeat (first | exact .head _ | with_reducible assumption | apply mC)); (case hn => first | rfl | simp)) | (refine' xAh hR rfl rfl rfl inferInstance ?hm ?hv ?_; (case hm => first | with_reducible assumption | repeat (first | exact .head _ | with_reducible assumption | apply mC)); (case hv => first | rfl | with_reducible assumption)) | (refine' xAs hR rfl rfl rfl inferInstance ?hm ?hv ?hn ?_; (case hm => first | with_reducible assumption | repeat (first | exact .head _ | with_reducible assumption | apply mC)); (case hv => first | with_reducible assumption | (simp only [kC, kD, kE, kF]; try rfl)); (case hn => first | rfl | simp)) | (go_at_call 21; refine (cP1 _ hR).mono ?_; clear hR; rintro e w ⟨rfl, hR⟩))
            exact hK.out (j + 1) _ _ hj1.out hmu.out (by simp only [ek.out]; exact xBh rfl rfl rfl) hR
          · have cP1 := cP false ⟨fun hx => (by cases hx), fun hx => absurd (hpass.1 hx) hle⟩
            have d1 : decide ((ls : Int) ≤ (j : Int) + 1) = false := decide_eq_false (by omega)
            have d2 : ¬ (ls : Int) ≤ (j : Int) + 1 := by omega
            clear cP hpass hle
            repeat (first | (obtain ⟨x, tm', e, ht'⟩ := xAu ht; clear ht; subst e; have ht := ht'; clear ht') | (obtain ⟨tm', e, ht'⟩ := xAj ht; clear ht; subst e; have ht := ht'; clear ht'))
            obtain rfl := xAz ht
            clear ht
            go_wp2_with (first | go_skip | (refine' xAb hR rfl rfl rfl ?_; clear hR; intro blk w hR) | (refine' xAa hR rfl rfl inferInstance ?_; clear hR; intro blk w hR) | (refine' aFq hR rfl rfl rfl inferInstance ?_) | (refine' aGq hR rfl rfl rfl inferInstance ?_) | (refine' aHq hR rfl rfl rfl inferInstance ?_) | (refine' aIq hR rfl rfl rfl inferInstance rfl ?_; clear hR; intro w hR) | (refine' aJq hR rfl rfl rfl inferInstance rfl rfl ?_; clear hR; intro w hR) | (refine' xAq hR rfl rfl rfl inferInstance ?hm ?hn ?_; (case hm => first | with_reducible assumption | repeat (first | exact .head _ | with_reducible assumption | apply mC)); (case hn => first | rfl | simp)) | (refine' xAh hR rfl rfl rfl inferInstance ?hm ?hv ?_; (case hm => first | with_reducible assumption | repeat (first | exact .head _ | with_reducible assumption | apply mC)); (case hv => first | rfl | with_reducible assumption)) | (refine' xAs hR rfl rfl rfl inferInstance ?hm ?hv ?hn ?_; (case hm => first | with_reducible assumption | repeat (first | exact .head _ | with_reducible assumption | apply mC)); (case hv => first | with_reducible assumption | (simp only [kC, kD, kE, kF]; try rfl)); (case hn => first | rfl | simp)) | (go_at_call 21; refine (cP1 _ hR).mono ?_; clear hR; rintro e w ⟨rfl, hR⟩))
            exact hK.out (j + 1) _ _ hj1.out hmu.out (by simp only [ek.out]; exact xBh rfl rfl rfl) hR
end Go.Proofs.Ytgfoeongjhkdmaa
