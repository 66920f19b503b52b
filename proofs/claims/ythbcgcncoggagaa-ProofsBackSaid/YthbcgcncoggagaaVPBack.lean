/- The walk of balefirelaw14.ProofsBack. -/
import Derived.Test.YthbcgcncoggagaaVPrfAl
set_option linter.unusedVariables false
set_option linter.unusedSimpArgs false
namespace Go.Proofs.Ythbcgcncoggagaa
open Go.RowKit
attribute [local irreducible] Calls Instr.build Instr.buildSlice
@[simp] theorem len_pback_walk (s : ByteArray) (x base y a b d c S : Nat) : (pvL s x base y a b d c S).length = 33 := rfl
set_option maxRecDepth 100000 in
set_option maxHeartbeats 16000000 in
theorem pback_walk (p q g h : Nat) (hp : p < B) (hq : q < B) (hg : g < B) (hh : h < B) (s : ByteArray) (x base y a b d c S : Nat) (o : Nat) (hx : x < B) (hb : base < B) (hy : y < B) (ha : a < B) (hb' : b < B) (hd : d < B) (hc : c < B) (hS : S < B) (ho : o < B) (w : World) : Calls Try.prog 3 #[grp p q g h, pv s x base y a b d c S, num o] w fun e w' =>
    e = .returned (.bool true) ∧ Below w.heap.size w w' := by
  classical
  have al := fun w => alive14_any w
  have tq := gl_q p q g h
  have ts : (pvL s x base y a b d c S)[0]? = some (.string s) := rfl
  have t1 : ((pvL s x base y a b d c S).drop 1).take 4 = nl x := rfl
  have t5 : ((pvL s x base y a b d c S).drop 5).take 4 = nl base := rfl
  have t9 : ((pvL s x base y a b d c S).drop 9).take 4 = nl y := rfl
  have t21 : ((pvL s x base y a b d c S).drop 21).take 4 = nl d := rfl
  have hrow : (pvL s x base y a b d c S).length = 33 := rfl
  change Calls Try.prog _ #[_, .agg (pvL s x base y a b d c S).toArray, _] w _
  have fi := fun (r : Bool) (hr : r = true ↔ fineP p q g h s x base y d) => fine14_lit hp hq hg hh hx hb hy hd hrow ts t1 t5 t9 t21 hr
  have m1 := xCi ho hq rfl
  have k1 := cmpN_ge o q
  generalize cmpN o q = z1 at *
  by_cases hf : fineP p q g h s x base y d
  case neg =>
    replace fi := fi false ⟨fun h => (by cases h), fun h => absurd h hf⟩
    clear hf k1
    have hR := Rep.init w
    go_enter Try.func3, Try.ntmps3
    go_wp2_with (first | go_skip | (refine' xAe hR rfl rfl rfl ?_; clear hR; intro blk w hR) | (refine' xAb hR rfl rfl inferInstance ?_; clear hR; intro blk w hR) | (refine' xAc hR rfl rfl rfl inferInstance ?hm ?hn ?_; (case hm => first | with_reducible assumption | repeat (first | exact .head _ | with_reducible assumption | apply mC)); (case hn => first | rfl | simp)) | (refine' xAd hR rfl rfl rfl inferInstance ?hm ?hv ?hn ?_; (case hm => first | with_reducible assumption | repeat (first | exact .head _ | with_reducible assumption | apply mC)); (case hv => first | with_reducible assumption | (simp only [kC, kD, kE, kF]; try rfl)); (case hn => first | rfl | simp)) | (refine' xBg hR rfl rfl rfl inferInstance ?hm ?hv ?_; (case hm => first | with_reducible assumption | repeat (first | exact .head _ | with_reducible assumption | apply mC)); (case hv => first | rfl | with_reducible assumption)) | (refine' xAa hR rfl rfl rfl inferInstance rfl ?hs ?zone ?zvn ?hn ?_; (case hs => repeat (first | exact xAf.head | apply xAf.tail)); (case zone => first | rfl | with_reducible assumption); (case zvn => first | rfl | simp); (case hn => first | rfl | simp); clear hR; intro w hR) | (refine' xBe hR rfl rfl rfl inferInstance rfl rfl ?hs ?hn ?hl ?_; (case hs => repeat (first | exact xAf.head | apply xAf.tail)); (case hn => first | exact oD rfl | (show _ < 4; with_reducible assumption) | (simp; try omega)); (case hl => first | with_reducible assumption | (simp only [nl, kA, kB]; first | done | rfl) | rfl); clear hR; intro w hR) | (refine' xAg hR rfl rfl rfl inferInstance ?hm ?hn ?_; (case hm => first | with_reducible assumption | repeat (first | exact .head _ | with_reducible assumption | apply mC)); (case hn => first | rfl | simp)) | (refine' xBf hR rfl rfl rfl inferInstance ?hm ?hv ?_; (case hm => first | with_reducible assumption | repeat (first | exact .head _ | with_reducible assumption | apply mC)); (case hv => first | rfl | with_reducible assumption)) | (refine' xAp hR rfl rfl rfl inferInstance ?hm ?hv ?hn ?_; (case hm => first | with_reducible assumption | repeat (first | exact .head _ | with_reducible assumption | apply mC)); (case hv => first | with_reducible assumption | (simp only [kC, kD, kE, kF]; try rfl)); (case hn => first | rfl | simp)) | (go_at_call 12; refine (fi _).mono ?_; rintro e w ⟨rfl, hb⟩; replace hR := hR.call hb; clear hb) | (go_at_call 14; refine (al _).mono ?_; rintro e w ⟨rfl, hb⟩; replace hR := hR.call hb; clear hb))
    go_ret
    exact ⟨rfl, hR.below⟩
  replace fi := fi true ⟨fun _ => hf, fun _ => rfl⟩
  by_cases lo : q ≤ o
  · have k2 : decide (0 ≤ z1) = true := decide_eq_true (k1.2 lo)
    clear hf k1 lo
    have hR := Rep.init w
    go_enter Try.func3, Try.ntmps3
    go_wp2_with (first | go_skip | (refine' xAe hR rfl rfl rfl ?_; clear hR; intro blk w hR) | (refine' xAb hR rfl rfl inferInstance ?_; clear hR; intro blk w hR) | (refine' xAc hR rfl rfl rfl inferInstance ?hm ?hn ?_; (case hm => first | with_reducible assumption | repeat (first | exact .head _ | with_reducible assumption | apply mC)); (case hn => first | rfl | simp)) | (refine' xAd hR rfl rfl rfl inferInstance ?hm ?hv ?hn ?_; (case hm => first | with_reducible assumption | repeat (first | exact .head _ | with_reducible assumption | apply mC)); (case hv => first | with_reducible assumption | (simp only [kC, kD, kE, kF]; try rfl)); (case hn => first | rfl | simp)) | (refine' xBg hR rfl rfl rfl inferInstance ?hm ?hv ?_; (case hm => first | with_reducible assumption | repeat (first | exact .head _ | with_reducible assumption | apply mC)); (case hv => first | rfl | with_reducible assumption)) | (refine' xAa hR rfl rfl rfl inferInstance rfl ?hs ?zone ?zvn ?hn ?_; (case hs => repeat (first | exact xAf.head | apply xAf.tail)); (case zone => first | rfl | with_reducible assumption); (case zvn => first | rfl | simp); (case hn => first | rfl | simp); clear hR; intro w hR) | (refine' xBe hR rfl rfl rfl inferInstance rfl rfl ?hs ?hn ?hl ?_; (case hs => repeat (first | exact xAf.head | apply xAf.tail)); (case hn => first | exact oD rfl | (show _ < 4; with_reducible assumption) | (simp; try omega)); (case hl => first | with_reducible assumption | (simp only [nl, kA, kB]; first | done | rfl) | rfl); clear hR; intro w hR) | (refine' xAg hR rfl rfl rfl inferInstance ?hm ?hn ?_; (case hm => first | with_reducible assumption | repeat (first | exact .head _ | with_reducible assumption | apply mC)); (case hn => first | rfl | simp)) | (refine' xBf hR rfl rfl rfl inferInstance ?hm ?hv ?_; (case hm => first | with_reducible assumption | repeat (first | exact .head _ | with_reducible assumption | apply mC)); (case hv => first | rfl | with_reducible assumption)) | (refine' xAp hR rfl rfl rfl inferInstance ?hm ?hv ?hn ?_; (case hm => first | with_reducible assumption | repeat (first | exact .head _ | with_reducible assumption | apply mC)); (case hv => first | with_reducible assumption | (simp only [kC, kD, kE, kF]; try rfl)); (case hn => first | rfl | simp)) | (go_at_call 12; refine (fi _).mono ?_; rintro e w ⟨rfl, hb⟩; replace hR := hR.call hb; clear hb) | (go_at_call 14; refine (al _).mono ?_; rintro e w ⟨rfl, hb⟩; replace hR := hR.call hb; clear hb) | (go_at_call 13; refine (m1 _).mono ?_; rintro e w ⟨rfl, hb⟩; replace hR := hR.call hb; clear hb))
    go_ret
    exact ⟨rfl, hR.below⟩
  have k2 : decide (0 ≤ z1) = false := decide_eq_false fun h => lo (k1.1 h)
  replace lo := Nat.lt_of_not_le lo
  clear k1
  by_cases o0 : o = 0
  · have k3 : eqN o 0 = true := eqN_yes o0
    clear hf lo o0
    have hR := Rep.init w
    go_enter Try.func3, Try.ntmps3
    go_wp2_with (first | go_skip | (refine' xAe hR rfl rfl rfl ?_; clear hR; intro blk w hR) | (refine' xAb hR rfl rfl inferInstance ?_; clear hR; intro blk w hR) | (refine' xAc hR rfl rfl rfl inferInstance ?hm ?hn ?_; (case hm => first | with_reducible assumption | repeat (first | exact .head _ | with_reducible assumption | apply mC)); (case hn => first | rfl | simp)) | (refine' xAd hR rfl rfl rfl inferInstance ?hm ?hv ?hn ?_; (case hm => first | with_reducible assumption | repeat (first | exact .head _ | with_reducible assumption | apply mC)); (case hv => first | with_reducible assumption | (simp only [kC, kD, kE, kF]; try rfl)); (case hn => first | rfl | simp)) | (refine' xBg hR rfl rfl rfl inferInstance ?hm ?hv ?_; (case hm => first | with_reducible assumption | repeat (first | exact .head _ | with_reducible assumption | apply mC)); (case hv => first | rfl | with_reducible assumption)) | (refine' xAa hR rfl rfl rfl inferInstance rfl ?hs ?zone ?zvn ?hn ?_; (case hs => repeat (first | exact xAf.head | apply xAf.tail)); (case zone => first | rfl | with_reducible assumption); (case zvn => first | rfl | simp); (case hn => first | rfl | simp); clear hR; intro w hR) | (refine' xBe hR rfl rfl rfl inferInstance rfl rfl ?hs ?hn ?hl ?_; (case hs => repeat (first | exact xAf.head | apply xAf.tail)); (case hn => first | exact oD rfl | (show _ < 4; with_reducible assumption) | (simp; try omega)); (case hl => first | with_reducible assumption | (simp only [nl, kA, kB]; first | done | rfl) | rfl); clear hR; intro w hR) | (refine' xAg hR rfl rfl rfl inferInstance ?hm ?hn ?_; (case hm => first | with_reducible assumption | repeat (first | exact .head _ | with_reducible assumption | apply mC)); (case hn => first | rfl | simp)) | (refine' xBf hR rfl rfl rfl inferInstance ?hm ?hv ?_; (case hm => first | with_reducible assumption | repeat (first | exact .head _ | with_reducible assumption | apply mC)); (case hv => first | rfl | with_reducible assumption)) | (refine' xAp hR rfl rfl rfl inferInstance ?hm ?hv ?hn ?_; (case hm => first | with_reducible assumption | repeat (first | exact .head _ | with_reducible assumption | apply mC)); (case hv => first | with_reducible assumption | (simp only [kC, kD, kE, kF]; try rfl)); (case hn => first | rfl | simp)) | (go_at_call 12; refine (fi _).mono ?_; rintro e w ⟨rfl, hb⟩; replace hR := hR.call hb; clear hb) | (go_at_call 14; refine (al _).mono ?_; rintro e w ⟨rfl, hb⟩; replace hR := hR.call hb; clear hb) | (go_at_call 13; refine (m1 _).mono ?_; rintro e w ⟨rfl, hb⟩; replace hR := hR.call hb; clear hb))
    go_ret
    exact ⟨rfl, hR.below⟩
  have k3 : eqN o 0 = false := eqN_no ho B_pos o0
  obtain ⟨hs5, ⟨gp, gq, gsp, gsq, gg, ggh, g1, g1h⟩, ib, iy, lx, ld, d0⟩ := hf
  have hs : s.size ≤ 100000 := by omega
  have q1 : 1 < q := gsq.1
  obtain ⟨A, hA⟩ : ∃ k, powN base x p = k := ⟨_, rfl⟩
  obtain ⟨D, hD⟩ : ∃ k, powN y x p = k := ⟨_, rfl⟩
  have k4 := proved_ok (s := s) (x := x) (d := d) ib iy q1
  have k5 := proved_ok (s := s) (x := x) (d := o) ib iy q1
  rw [hA, hD] at k4 k5
  have p1 := fun w => prove_yes (g := g) (h := h) (s := s) hp hq hx hb hy hd hs (prove_may ib iy q1 lx d0 ld) w
  have p2 := fun w => prove_yes (g := g) (h := h) (s := s) hp hq hx hb hy ho hs (prove_may ib iy q1 lx o0 lo) w
  have lC : prC p q s x base y d < q := prC_lt q1
  have lZ : prS p q s x base y d < q := prS_lt q1
  have lC2 : prC p q s x base y o < q := prC_lt q1
  have lZ2 : prS p q s x base y o < q := prS_lt q1
  generalize prC p q s x base y d = C at *
  generalize prS p q s x base y d = Z at *
  generalize prC p q s x base y o = C2 at *
  generalize prS p q s x base y o = Z2 at *
  have x1 := pw14_lit (q := q) (g := g) (h := h) (r := A) hp hb hx (by rw [if_pos ib.1, hA])
  have x2 := pw14_lit (q := q) (g := g) (h := h) (r := D) hp hy hx (by rw [if_pos iy.1, hD])
  have lA : A < B := by have := k4.1.2.1.1.2.2; omega
  have lD : D < B := by have := k4.1.2.2.2.1.2.2; omega
  have c1 := fun w => pchk_lit (g := g) (h := h) (res := true) hp hq hb lA hy lD (by omega : C < B) (by omega : Z < B) hs ⟨fun _ => k4, fun _ => rfl⟩ w
  have c2 := fun w => pchk_lit (g := g) (h := h) (res := true) hp hq hb lA hy lD (by omega : C2 < B) (by omega : Z2 < B) hs ⟨fun _ => k5, fun _ => rfl⟩ w
  have es := eqS_self C Z
  clear hs5 gp gq gsp gsq gg ggh g1 g1h ib iy lx ld d0 hs q1 hA hD k4 k5 lC lZ lC2 lZ2 lA lD lo o0
  have hR := Rep.init w
  go_enter Try.func3, Try.ntmps3
  go_wp2_with (first | go_skip | (refine' xAe hR rfl rfl rfl ?_; clear hR; intro blk w hR) | (refine' xAb hR rfl rfl inferInstance ?_; clear hR; intro blk w hR) | (refine' xAc hR rfl rfl rfl inferInstance ?hm ?hn ?_; (case hm => first | with_reducible assumption | repeat (first | exact .head _ | with_reducible assumption | apply mC)); (case hn => first | rfl | simp)) | (refine' xAd hR rfl rfl rfl inferInstance ?hm ?hv ?hn ?_; (case hm => first | with_reducible assumption | repeat (first | exact .head _ | with_reducible assumption | apply mC)); (case hv => first | with_reducible assumption | (simp only [kC, kD, kE, kF]; try rfl)); (case hn => first | rfl | simp)) | (refine' xBg hR rfl rfl rfl inferInstance ?hm ?hv ?_; (case hm => first | with_reducible assumption | repeat (first | exact .head _ | with_reducible assumption | apply mC)); (case hv => first | rfl | with_reducible assumption)) | (refine' xAa hR rfl rfl rfl inferInstance rfl ?hs ?zone ?zvn ?hn ?_; (case hs => repeat (first | exact xAf.head | apply xAf.tail)); (case zone => first | rfl | with_reducible assumption); (case zvn => first | rfl | simp); (case hn => first | rfl | simp); clear hR; intro w hR) | (refine' xBe hR rfl rfl rfl inferInstance rfl rfl ?hs ?hn ?hl ?_; (case hs => repeat (first | exact xAf.head | apply xAf.tail)); (case hn => first | exact oD rfl | (show _ < 4; with_reducible assumption) | (simp; try omega)); (case hl => first | with_reducible assumption | (simp only [nl, kA, kB]; first | done | rfl) | rfl); clear hR; intro w hR) | (refine' xAg hR rfl rfl rfl inferInstance ?hm ?hn ?_; (case hm => first | with_reducible assumption | repeat (first | exact .head _ | with_reducible assumption | apply mC)); (case hn => first | rfl | simp)) | (refine' xBf hR rfl rfl rfl inferInstance ?hm ?hv ?_; (case hm => first | with_reducible assumption | repeat (first | exact .head _ | with_reducible assumption | apply mC)); (case hv => first | rfl | with_reducible assumption)) | (refine' xAp hR rfl rfl rfl inferInstance ?hm ?hv ?hn ?_; (case hm => first | with_reducible assumption | repeat (first | exact .head _ | with_reducible assumption | apply mC)); (case hv => first | with_reducible assumption | (simp only [kC, kD, kE, kF]; try rfl)); (case hn => first | rfl | simp)) | (go_at_call 12; refine (fi _).mono ?_; rintro e w ⟨rfl, hb⟩; replace hR := hR.call hb; clear hb) | (go_at_call 14; refine (al _).mono ?_; rintro e w ⟨rfl, hb⟩; replace hR := hR.call hb; clear hb) | (go_at_call 13; refine (m1 _).mono ?_; rintro e w ⟨rfl, hb⟩; replace hR := hR.call hb; clear hb) | (go_at_call 15; refine (x1 _).mono ?_; rintro e w ⟨rfl, hb⟩; replace hR := hR.call hb; clear hb) | (go_at_call 15; refine (x2 _).mono ?_; rintro e w ⟨rfl, hb⟩; replace hR := hR.call hb; clear hb) | (go_at_call 16; refine (p1 _).mono ?_; rintro e w ⟨rfl, hb⟩; replace hR := hR.call hb; clear hb) | (go_at_call 16; refine (p2 _).mono ?_; rintro e w ⟨rfl, hb⟩; replace hR := hR.call hb; clear hb) | (go_at_call 17; refine (c1 _).mono ?_; rintro e w ⟨rfl, hb⟩; replace hR := hR.call hb; clear hb) | (go_at_call 17; refine (c2 _).mono ?_; rintro e w ⟨rfl, hb⟩; replace hR := hR.call hb; clear hb))
  go_ret
  exact ⟨rfl, hR.below⟩
end Go.Proofs.Ythbcgcncoggagaa
