/- The walk of balefirelaw14.ProofsTold. -/
import Derived.Test.YtklidiambinhkaaVPrfAl
set_option linter.unusedVariables false
set_option linter.unusedSimpArgs false
namespace Go.Proofs.Ytklidiambinhkaa
open Go.RowKit
attribute [local irreducible] Calls Instr.build Instr.buildSlice
@[simp] theorem len_ptold_walk (s : ByteArray) (x base y a b d c S : Nat) : (pvL s x base y a b d c S).length = 33 := rfl
set_option maxRecDepth 100000 in
set_option maxHeartbeats 16000000 in
theorem ptold_walk (p q g h : Nat) (hp : p < B) (hq : q < B) (hg : g < B) (hh : h < B) (s : ByteArray) (x base y a b d c S : Nat) (s2 : ByteArray) (hx : x < B) (hb : base < B) (hy : y < B) (ha : a < B) (hb' : b < B) (hd : d < B) (hc : c < B) (hS : S < B) (w : World) : Calls Try.prog 11 #[grp p q g h, pv s x base y a b d c S, .string s2] w fun e w' =>
    e = .returned (.bool true) ∧ Below w.heap.size w w' := by
  classical
  have al := fun w => alive14_any w
  have tq := gl_q p q g h
  have ts : (pvL s x base y a b d c S)[0]? = some (.string s) := rfl
  have t1 : ((pvL s x base y a b d c S).drop 1).take 4 = nl x := rfl
  have t5 : ((pvL s x base y a b d c S).drop 5).take 4 = nl base := rfl
  have t9 : ((pvL s x base y a b d c S).drop 9).take 4 = nl y := rfl
  have t21 : ((pvL s x base y a b d c S).drop 21).take 4 = nl d := rfl
  have hrow : (pvL s x base y a b d c S).length = 33 := rfl
  change Calls Try.prog _ #[_, .agg (pvL s x base y a b d c S).toArray, _] w _
  have fi := fun (r : Bool) (hr : r = true ↔ fineP p q g h s x base y d) => fine14_lit hp hq hg hh hx hb hy hd hrow ts t1 t5 t9 t21 hr
  by_cases hf : fineP p q g h s x base y d
  case neg =>
    replace fi := fi false ⟨fun h => (by cases h), fun h => absurd h hf⟩
    clear hf
    have hR := Rep.init w
    go_enter Try.func11, Try.ntmps11
    go_wp2_with (first | go_skip | (refine' xAg hR rfl rfl rfl ?_; clear hR; intro blk w hR) | (refine' xAb hR rfl rfl inferInstance ?_; clear hR; intro blk w hR) | (refine' xAd hR rfl rfl rfl inferInstance ?hm ?hn ?_; (case hm => first | with_reducible assumption | repeat (first | exact .head _ | with_reducible assumption | apply mC)); (case hn => first | rfl | simp)) | (refine' xAe hR rfl rfl rfl inferInstance ?hm ?hv ?hn ?_; (case hm => first | with_reducible assumption | repeat (first | exact .head _ | with_reducible assumption | apply mC)); (case hv => first | with_reducible assumption | (simp only [kC, kD, kE, kF]; try rfl)); (case hn => first | rfl | simp)) | (refine' xAf hR rfl rfl rfl inferInstance ?hm ?hv ?_; (case hm => first | with_reducible assumption | repeat (first | exact .head _ | with_reducible assumption | apply mC)); (case hv => first | rfl | with_reducible assumption)) | (refine' xAa hR rfl rfl rfl inferInstance rfl ?hs ?zone ?zvn ?hn ?_; (case hs => repeat (first | exact xAh.head | apply xAh.tail)); (case zone => first | rfl | with_reducible assumption); (case zvn => first | rfl | simp); (case hn => first | rfl | simp); clear hR; intro w hR) | (refine' xAc hR rfl rfl rfl inferInstance rfl rfl ?hs ?hn ?hl ?_; (case hs => repeat (first | exact xAh.head | apply xAh.tail)); (case hn => first | exact oD rfl | (show _ < 4; with_reducible assumption) | (simp; try omega)); (case hl => first | with_reducible assumption | (simp only [nl, kA, kB]; first | done | rfl) | rfl); clear hR; intro w hR) | (refine' xAy hR rfl rfl rfl inferInstance ?hm ?hn ?_; (case hm => first | with_reducible assumption | repeat (first | exact .head _ | with_reducible assumption | apply mC)); (case hn => first | rfl | simp)) | (refine' xBt hR rfl rfl rfl inferInstance ?hm ?hv ?_; (case hm => first | with_reducible assumption | repeat (first | exact .head _ | with_reducible assumption | apply mC)); (case hv => first | rfl | with_reducible assumption)) | (refine' xBb hR rfl rfl rfl inferInstance ?hm ?hv ?hn ?_; (case hm => first | with_reducible assumption | repeat (first | exact .head _ | with_reducible assumption | apply mC)); (case hv => first | with_reducible assumption | (simp only [kC, kD, kE, kF]; try rfl)); (case hn => first | rfl | simp)) | (go_at_call 26; refine (fi _).mono ?_; rintro e w ⟨rfl, hb⟩; replace hR := hR.call hb; clear hb) | (go_at_call 23; refine (al _).mono ?_; rintro e w ⟨rfl, hb⟩; replace hR := hR.call hb; clear hb))
    go_ret
    exact ⟨rfl, hR.below⟩
  replace fi := fi true ⟨fun _ => hf, fun _ => rfl⟩
  by_cases hl : 5000 < s2.size
  · have k2 : decide (5000 < (s2.size : Int)) = true := decide_eq_true (by omega)
    clear hf hl
    have hR := Rep.init w
    go_enter Try.func11, Try.ntmps11
    go_wp2_with (first | go_skip | (refine' xAg hR rfl rfl rfl ?_; clear hR; intro blk w hR) | (refine' xAb hR rfl rfl inferInstance ?_; clear hR; intro blk w hR) | (refine' xAd hR rfl rfl rfl inferInstance ?hm ?hn ?_; (case hm => first | with_reducible assumption | repeat (first | exact .head _ | with_reducible assumption | apply mC)); (case hn => first | rfl | simp)) | (refine' xAe hR rfl rfl rfl inferInstance ?hm ?hv ?hn ?_; (case hm => first | with_reducible assumption | repeat (first | exact .head _ | with_reducible assumption | apply mC)); (case hv => first | with_reducible assumption | (simp only [kC, kD, kE, kF]; try rfl)); (case hn => first | rfl | simp)) | (refine' xAf hR rfl rfl rfl inferInstance ?hm ?hv ?_; (case hm => first | with_reducible assumption | repeat (first | exact .head _ | with_reducible assumption | apply mC)); (case hv => first | rfl | with_reducible assumption)) | (refine' xAa hR rfl rfl rfl inferInstance rfl ?hs ?zone ?zvn ?hn ?_; (case hs => repeat (first | exact xAh.head | apply xAh.tail)); (case zone => first | rfl | with_reducible assumption); (case zvn => first | rfl | simp); (case hn => first | rfl | simp); clear hR; intro w hR) | (refine' xAc hR rfl rfl rfl inferInstance rfl rfl ?hs ?hn ?hl ?_; (case hs => repeat (first | exact xAh.head | apply xAh.tail)); (case hn => first | exact oD rfl | (show _ < 4; with_reducible assumption) | (simp; try omega)); (case hl => first | with_reducible assumption | (simp only [nl, kA, kB]; first | done | rfl) | rfl); clear hR; intro w hR) | (refine' xAy hR rfl rfl rfl inferInstance ?hm ?hn ?_; (case hm => first | with_reducible assumption | repeat (first | exact .head _ | with_reducible assumption | apply mC)); (case hn => first | rfl | simp)) | (refine' xBt hR rfl rfl rfl inferInstance ?hm ?hv ?_; (case hm => first | with_reducible assumption | repeat (first | exact .head _ | with_reducible assumption | apply mC)); (case hv => first | rfl | with_reducible assumption)) | (refine' xBb hR rfl rfl rfl inferInstance ?hm ?hv ?hn ?_; (case hm => first | with_reducible assumption | repeat (first | exact .head _ | with_reducible assumption | apply mC)); (case hv => first | with_reducible assumption | (simp only [kC, kD, kE, kF]; try rfl)); (case hn => first | rfl | simp)) | (go_at_call 26; refine (fi _).mono ?_; rintro e w ⟨rfl, hb⟩; replace hR := hR.call hb; clear hb) | (go_at_call 23; refine (al _).mono ?_; rintro e w ⟨rfl, hb⟩; replace hR := hR.call hb; clear hb))
    go_ret
    exact ⟨rfl, hR.below⟩
  have k2 : decide (5000 < (s2.size : Int)) = false := decide_eq_false (by omega)
  obtain ⟨hs5, ⟨gp, gq, gsp, gsq, gg, ggh, g1, g1h⟩, ib, iy, lx, ld, d0⟩ := hf
  have hs : s.size ≤ 100000 := by omega
  have q1 : 1 < q := gsq.1
  have hs2 : s2.size ≤ 100000 := by omega
  have p1 := fun w => prove_yes (g := g) (h := h) (s := s) hp hq hx hb hy hd hs (prove_may ib iy q1 lx d0 ld) w
  have p2 := fun w => prove_yes (g := g) (h := h) (s := s2) hp hq hx hb hy hd hs2 (prove_may ib iy q1 lx d0 ld) w
  have lC : prC p q s x base y d < q := prC_lt q1
  have lZ : prS p q s x base y d < q := prS_lt q1
  have lC2 : prC p q s2 x base y d < q := prC_lt q1
  have lZ2 : prS p q s2 x base y d < q := prS_lt q1
  have eZ : prS p q s x base y d = (d + mulN x (prC p q s x base y d) q) % q := rfl
  have eZ2 : prS p q s2 x base y d = (d + mulN x (prC p q s2 x base y d) q) % q := rfl
  generalize prC p q s x base y d = C at *
  generalize prS p q s x base y d = Z at *
  generalize prC p q s2 x base y d = C2 at *
  generalize prS p q s2 x base y d = Z2 at *
  obtain ⟨m, hm⟩ : ∃ m, subN C C2 q = m := ⟨_, rfl⟩
  obtain ⟨n, hn⟩ : ∃ m, subN Z Z2 q = m := ⟨_, rfl⟩
  have lm : m < q := by rw [← hm, subN_def]; exact Nat.mod_lt _ (by omega)
  have ln : n < q := by rw [← hn, subN_def]; exact Nat.mod_lt _ (by omega)
  have b1 := ssub_lit (p := p) (g := g) (h := h) (e := 0) (r := m) (by omega : C < B) (by omega : C2 < B) hq (by rw [if_pos ⟨q1, lC, lC2⟩, hm]) (if_pos ⟨q1, lC, lC2⟩)
  have b2 := ssub_lit (p := p) (g := g) (h := h) (e := 0) (r := n) (by omega : Z < B) (by omega : Z2 < B) hq (by rw [if_pos ⟨q1, lZ, lZ2⟩, hn]) (if_pos ⟨q1, lZ, lZ2⟩)
  have tz0 : ((nl2 C Z).drop 0).take 4 = nl C := rfl
  have tz4 : ((nl2 C Z).drop 4).take 4 = nl Z := rfl
  have ty0 : ((nl2 C2 Z2).drop 0).take 4 = nl C2 := rfl
  have ty4 : ((nl2 C2 Z2).drop 4).take 4 = nl Z2 := rfl
  by_cases hm0 : m = 0
  · have e0 : eqN m 0 = true := xCm hm0
    have hn0 : n = 0 := by rw [← hn, eZ, eZ2]; exact two_none q1 lC lC2 (by rw [hm, hm0])
    have e1 : eqN n m = true := xCm (by omega)
    clear hs5 gp gq gsp gsq gg ggh g1 g1h ib iy lx ld d0 hs q1 hs2 hl lC lZ lC2 lZ2 eZ eZ2 hm hn lm ln hm0 hn0
    have hR := Rep.init w
    go_enter Try.func11, Try.ntmps11
    go_wp2_with (first | go_skip | (refine' xAg hR rfl rfl rfl ?_; clear hR; intro blk w hR) | (refine' xAb hR rfl rfl inferInstance ?_; clear hR; intro blk w hR) | (refine' xAd hR rfl rfl rfl inferInstance ?hm ?hn ?_; (case hm => first | with_reducible assumption | repeat (first | exact .head _ | with_reducible assumption | apply mC)); (case hn => first | rfl | simp)) | (refine' xAe hR rfl rfl rfl inferInstance ?hm ?hv ?hn ?_; (case hm => first | with_reducible assumption | repeat (first | exact .head _ | with_reducible assumption | apply mC)); (case hv => first | with_reducible assumption | (simp only [kC, kD, kE, kF]; try rfl)); (case hn => first | rfl | simp)) | (refine' xAf hR rfl rfl rfl inferInstance ?hm ?hv ?_; (case hm => first | with_reducible assumption | repeat (first | exact .head _ | with_reducible assumption | apply mC)); (case hv => first | rfl | with_reducible assumption)) | (refine' xAa hR rfl rfl rfl inferInstance rfl ?hs ?zone ?zvn ?hn ?_; (case hs => repeat (first | exact xAh.head | apply xAh.tail)); (case zone => first | rfl | with_reducible assumption); (case zvn => first | rfl | simp); (case hn => first | rfl | simp); clear hR; intro w hR) | (refine' xAc hR rfl rfl rfl inferInstance rfl rfl ?hs ?hn ?hl ?_; (case hs => repeat (first | exact xAh.head | apply xAh.tail)); (case hn => first | exact oD rfl | (show _ < 4; with_reducible assumption) | (simp; try omega)); (case hl => first | with_reducible assumption | (simp only [nl, kA, kB]; first | done | rfl) | rfl); clear hR; intro w hR) | (refine' xAy hR rfl rfl rfl inferInstance ?hm ?hn ?_; (case hm => first | with_reducible assumption | repeat (first | exact .head _ | with_reducible assumption | apply mC)); (case hn => first | rfl | simp)) | (refine' xBt hR rfl rfl rfl inferInstance ?hm ?hv ?_; (case hm => first | with_reducible assumption | repeat (first | exact .head _ | with_reducible assumption | apply mC)); (case hv => first | rfl | with_reducible assumption)) | (refine' xBb hR rfl rfl rfl inferInstance ?hm ?hv ?hn ?_; (case hm => first | with_reducible assumption | repeat (first | exact .head _ | with_reducible assumption | apply mC)); (case hv => first | with_reducible assumption | (simp only [kC, kD, kE, kF]; try rfl)); (case hn => first | rfl | simp)) | (go_at_call 26; refine (fi _).mono ?_; rintro e w ⟨rfl, hb⟩; replace hR := hR.call hb; clear hb) | (go_at_call 23; refine (al _).mono ?_; rintro e w ⟨rfl, hb⟩; replace hR := hR.call hb; clear hb) | (go_at_call 24; refine (p1 _).mono ?_; rintro e w ⟨rfl, hb⟩; replace hR := hR.call hb; clear hb) | (go_at_call 24; refine (p2 _).mono ?_; rintro e w ⟨rfl, hb⟩; replace hR := hR.call hb; clear hb) | (go_at_call 20; refine (b1 _).mono ?_; rintro e w ⟨rfl, hb⟩; replace hR := hR.call hb; clear hb) | (go_at_call 20; refine (b2 _).mono ?_; rintro e w ⟨rfl, hb⟩; replace hR := hR.call hb; clear hb))
    go_ret
    exact ⟨rfl, hR.below⟩
  have e0 : eqN m 0 = false := eqN_no (by omega) B_pos hm0
  obtain ⟨hgc, htold⟩ := two_told (d := d) gsq lx lC lC2 (by rw [hm]; exact hm0)
  rw [hm] at hgc
  rw [← eZ, ← eZ2, hn, hm] at htold
  obtain ⟨z, hz⟩ : ∃ z, invM m q = z := ⟨_, rfl⟩
  obtain ⟨lz, _⟩ := invM_spec q1 lm hgc
  rw [hz] at lz htold
  have v1 := sinv_lit (p := p) (g := g) (h := h) (e := 0) (r := z) (by omega : m < B) hq (by rw [if_pos (show okE m q from ⟨q1, lm⟩), hz]) (by unfold invE; rw [if_pos (show okE m q from ⟨q1, lm⟩), if_pos hgc])
  have m1 := smul_lit (p := p) (g := g) (h := h) (e := 0) (r := x) (by omega : n < B) (by omega : z < B) hq (by rw [if_pos ⟨q1, ln, lz⟩, htold]) (if_pos ⟨q1, ln, lz⟩)
  have es := eqN_self x
  clear hs5 gp gq gsp gsq gg ggh g1 g1h ib iy lx ld d0 hs q1 hs2 hl lC lZ lC2 lZ2 eZ eZ2 hm hn lm ln hm0 hz lz htold hgc
  have hR := Rep.init w
  go_enter Try.func11, Try.ntmps11
  go_wp2_with (first | go_skip | (refine' xAg hR rfl rfl rfl ?_; clear hR; intro blk w hR) | (refine' xAb hR rfl rfl inferInstance ?_; clear hR; intro blk w hR) | (refine' xAd hR rfl rfl rfl inferInstance ?hm ?hn ?_; (case hm => first | with_reducible assumption | repeat (first | exact .head _ | with_reducible assumption | apply mC)); (case hn => first | rfl | simp)) | (refine' xAe hR rfl rfl rfl inferInstance ?hm ?hv ?hn ?_; (case hm => first | with_reducible assumption | repeat (first | exact .head _ | with_reducible assumption | apply mC)); (case hv => first | with_reducible assumption | (simp only [kC, kD, kE, kF]; try rfl)); (case hn => first | rfl | simp)) | (refine' xAf hR rfl rfl rfl inferInstance ?hm ?hv ?_; (case hm => first | with_reducible assumption | repeat (first | exact .head _ | with_reducible assumption | apply mC)); (case hv => first | rfl | with_reducible assumption)) | (refine' xAa hR rfl rfl rfl inferInstance rfl ?hs ?zone ?zvn ?hn ?_; (case hs => repeat (first | exact xAh.head | apply xAh.tail)); (case zone => first | rfl | with_reducible assumption); (case zvn => first | rfl | simp); (case hn => first | rfl | simp); clear hR; intro w hR) | (refine' xAc hR rfl rfl rfl inferInstance rfl rfl ?hs ?hn ?hl ?_; (case hs => repeat (first | exact xAh.head | apply xAh.tail)); (case hn => first | exact oD rfl | (show _ < 4; with_reducible assumption) | (simp; try omega)); (case hl => first | with_reducible assumption | (simp only [nl, kA, kB]; first | done | rfl) | rfl); clear hR; intro w hR) | (refine' xAy hR rfl rfl rfl inferInstance ?hm ?hn ?_; (case hm => first | with_reducible assumption | repeat (first | exact .head _ | with_reducible assumption | apply mC)); (case hn => first | rfl | simp)) | (refine' xBt hR rfl rfl rfl inferInstance ?hm ?hv ?_; (case hm => first | with_reducible assumption | repeat (first | exact .head _ | with_reducible assumption | apply mC)); (case hv => first | rfl | with_reducible assumption)) | (refine' xBb hR rfl rfl rfl inferInstance ?hm ?hv ?hn ?_; (case hm => first | with_reducible assumption | repeat (first | exact .head _ | with_reducible assumption | apply mC)); (case hv => first | with_reducible assumption | (simp only [kC, kD, kE, kF]; try rfl)); (case hn => first | rfl | simp)) | (go_at_call 26; refine (fi _).mono ?_; rintro e w ⟨rfl, hb⟩; replace hR := hR.call hb; clear hb) | (go_at_call 23; refine (al _).mono ?_; rintro e w ⟨rfl, hb⟩; replace hR := hR.call hb; clear hb) | (go_at_call 24; refine (p1 _).mono ?_; rintro e w ⟨rfl, hb⟩; replace hR := hR.call hb; clear hb) | (go_at_call 24; refine (p2 _).mono ?_; rintro e w ⟨rfl, hb⟩; replace hR := hR.call hb; clear hb) | (go_at_call 20; refine (b1 _).mono ?_; rintro e w ⟨rfl, hb⟩; replace hR := hR.call hb; clear hb) | (go_at_call 20; refine (b2 _).mono ?_; rintro e w ⟨rfl, hb⟩; replace hR := hR.call hb; clear hb) | (go_at_call 21; refine (v1 _).mono ?_; rintro e w ⟨rfl, hb⟩; replace hR := hR.call hb; clear hb) | (go_at_call 22; refine (m1 _).mono ?_; rintro e w ⟨rfl, hb⟩; replace hR := hR.call hb; clear hb))
  go_ret
  exact ⟨rfl, hR.below⟩
end Go.Proofs.Ytklidiambinhkaa
