/- The walk of balefirelaw13.SigsTwo. -/
import Derived.Test.YtklidiambinhkaaZSBack
set_option linter.unusedVariables false
set_option linter.unusedSimpArgs false
namespace Go.Proofs.Ytklidiambinhkaa
open Go.RowKit
attribute [local irreducible] Calls Instr.build Instr.buildSlice
set_option maxRecDepth 100000 in
set_option maxHeartbeats 16000000 in
theorem stwo_walk (p q g h : Nat) (hp : p < B) (hq : q < B) (hg : g < B) (hh : h < B) (s d k c S : Nat) (H : Nat → Nat) (G : Nat → Nat) (hs : s < B) (hd : d < B) (hk : k < B) (hc : c < B) (hS : S < B) (hH : ∀ j, H j < 256) (hG : ∀ j, G j < 256) (w : World) : Calls Try.prog 6 #[grp p q g h, gv s d k H c S, .agg (u8s 32 G).toArray] w fun e w' =>
    e = .returned (.bool true) ∧ Below w.heap.size w w' := by
  classical
  have al := fun w => alive13_any w
  have tq := gl_q p q g h
  have tg := gl_g p q g h
  have t0 := gv_s s d k H c S
  have t1 := gv_d s d k H c S
  have t3 := gv_h s d k H c S
  change Calls Try.prog _ #[_, .agg (gvL s d k H c S).toArray, _] w _
  generalize gvL s d k H c S = row at *
  obtain ⟨W, hW⟩ : ∃ x, x = w := ⟨_, rfl⟩
  subst hW
  have fi := fun (r : Bool) (hr : r = true ↔ fineX p q g h [s, d]) (b : Nat) (L : List (Nat × Obj)) (w' : World) (hm : (b, Obj.cells (nl2 s d).toArray 24) ∈ L) (hR : Rep W.heap.size W L w') => fine2_lit hp hq hg hh hs hd hr hm hR
  have hone := u8s_one 32 H
  have honeG := u8s_one 32 G
  have hR := Rep.init W
  by_cases hf : fineX p q g h [s, d]
  case neg =>
    replace fi := fi false ⟨fun h => (by cases h), fun h => absurd h hf⟩
    clear hf
    go_enter Try.func6, Try.ntmps6
    go_wp2_with (first | go_skip | (refine' xAf hR rfl rfl rfl ?_; clear hR; intro blk w hR) | (refine' xAb hR rfl rfl inferInstance ?_; clear hR; intro blk w hR) | (refine' xAc hR rfl rfl rfl inferInstance ?hm ?hn ?_; (case hm => first | with_reducible assumption | repeat (first | exact .head _ | with_reducible assumption | apply mC)); (case hn => first | rfl | simp)) | (refine' xAd hR rfl rfl rfl inferInstance ?hm ?hv ?hn ?_; (case hm => first | with_reducible assumption | repeat (first | exact .head _ | with_reducible assumption | apply mC)); (case hv => first | with_reducible assumption | (simp only [kC, kD, kE, kF]; try rfl)); (case hn => first | rfl | simp)) | (refine' xAa hR rfl rfl rfl inferInstance rfl ?hs ?zone ?zvn ?hn ?_; (case hs => repeat (first | exact xAh.head | apply xAh.tail)); (case zone => first | rfl | with_reducible assumption); (case zvn => first | rfl | simp); (case hn => first | rfl | simp); clear hR; intro w hR) | (refine' xAy hR rfl rfl rfl inferInstance ?hm ?hn ?_; (case hm => first | with_reducible assumption | repeat (first | exact .head _ | with_reducible assumption | apply mC)); (case hn => first | rfl | simp)) | (refine' xBb hR rfl rfl rfl inferInstance ?hm ?hv ?hn ?_; (case hm => first | with_reducible assumption | repeat (first | exact .head _ | with_reducible assumption | apply mC)); (case hv => first | with_reducible assumption | (simp only [kC, kD, kE, kF]; try rfl)); (case hn => first | rfl | simp)) | (refine' xCf hR rfl rfl rfl rfl (xCg _ _) ?_; clear hR; intro bt w hR) | (go_at_call 17; refine (fi _ _ _ (.head _) hR).mono ?_; clear hR; rintro e w ⟨rfl, hR⟩) | (go_at_call 15; refine (al _).mono ?_; rintro e w ⟨rfl, hb⟩; replace hR := hR.call hb; clear hb))
    go_ret
    exact ⟨rfl, hR.below⟩
  replace fi := fi true ⟨fun _ => hf, fun _ => rfl⟩
  obtain ⟨hl, gp, gq, gsp, gsq, gg, ggh, g1, g1h⟩ := hf
  obtain ⟨ls, s0⟩ := hl s (by simp)
  obtain ⟨ld, d0⟩ := hl d (by simp)
  have q1 : 1 < q := gsq.1
  obtain ⟨C, hC⟩ : ∃ k, sigC p q g s d H = k := ⟨_, rfl⟩
  obtain ⟨Z, hZ⟩ : ∃ k, sigS p q g s d H = k := ⟨_, rfl⟩
  obtain ⟨C2, hC2⟩ : ∃ k, sigC p q g s d G = k := ⟨_, rfl⟩
  obtain ⟨Z2, hZ2⟩ : ∃ k, sigS p q g s d G = k := ⟨_, rfl⟩
  have s1 := fun w => sign_yes (h := h) hp hq hg hs hd hH (sign_may gg q1 s0 ls d0 ld) w
  have s2 := fun w => sign_yes (h := h) hp hq hg hs hd hG (sign_may gg q1 s0 ls d0 ld) w
  rw [hC, hZ] at s1
  rw [hC2, hZ2] at s2
  have lC : C < q := by rw [← hC]; exact sigC_lt q1
  have lZ : Z < q := by rw [← hZ]; exact sigS_lt q1
  have lC2 : C2 < q := by rw [← hC2]; exact sigC_lt q1
  have lZ2 : Z2 < q := by rw [← hZ2]; exact sigS_lt q1
  have eZ : Z = (d + mulN s C q) % q := by rw [← hZ, ← hC]; rfl
  have eZ2 : Z2 = (d + mulN s C2 q) % q := by rw [← hZ2, ← hC2]; rfl
  obtain ⟨x, hx⟩ : ∃ x, subN C C2 q = x := ⟨_, rfl⟩
  obtain ⟨y, hy⟩ : ∃ x, subN Z Z2 q = x := ⟨_, rfl⟩
  have lx : x < q := by rw [← hx, subN_def]; exact Nat.mod_lt _ (by omega)
  have ly : y < q := by rw [← hy, subN_def]; exact Nat.mod_lt _ (by omega)
  have b1 := ssub_lit (p := p) (g := g) (h := h) (e := 0) (r := x) (by omega : C < B) (by omega : C2 < B) hq (by rw [if_pos ⟨q1, lC, lC2⟩, hx]) (if_pos ⟨q1, lC, lC2⟩)
  have b2 := ssub_lit (p := p) (g := g) (h := h) (e := 0) (r := y) (by omega : Z < B) (by omega : Z2 < B) hq (by rw [if_pos ⟨q1, lZ, lZ2⟩, hy]) (if_pos ⟨q1, lZ, lZ2⟩)
  have tz0 : ((nl2 C Z).drop 0).take 4 = nl C := rfl
  have tz4 : ((nl2 C Z).drop 4).take 4 = nl Z := rfl
  have ty0 : ((nl2 C2 Z2).drop 0).take 4 = nl C2 := rfl
  have ty4 : ((nl2 C2 Z2).drop 4).take 4 = nl Z2 := rfl
  by_cases hx0 : x = 0
  · have e0 : eqN x 0 = true := eqN_yes hx0
    have hy0 : y = 0 := by rw [← hy, eZ, eZ2]; exact two_none q1 lC lC2 (by rw [hx, hx0])
    have e1 : eqN y x = true := eqN_yes (by omega)
    clear hl gp gq gsp gsq gg ggh g1 g1h ls s0 ld d0 q1 hC hZ hC2 hZ2 lC lZ lC2 lZ2 hH hG eZ eZ2 hx hy lx ly hx0 hy0
    go_enter Try.func6, Try.ntmps6
    go_wp2_with (first | go_skip | (refine' xAf hR rfl rfl rfl ?_; clear hR; intro blk w hR) | (refine' xAb hR rfl rfl inferInstance ?_; clear hR; intro blk w hR) | (refine' xAc hR rfl rfl rfl inferInstance ?hm ?hn ?_; (case hm => first | with_reducible assumption | repeat (first | exact .head _ | with_reducible assumption | apply mC)); (case hn => first | rfl | simp)) | (refine' xAd hR rfl rfl rfl inferInstance ?hm ?hv ?hn ?_; (case hm => first | with_reducible assumption | repeat (first | exact .head _ | with_reducible assumption | apply mC)); (case hv => first | with_reducible assumption | (simp only [kC, kD, kE, kF]; try rfl)); (case hn => first | rfl | simp)) | (refine' xAa hR rfl rfl rfl inferInstance rfl ?hs ?zone ?zvn ?hn ?_; (case hs => repeat (first | exact xAh.head | apply xAh.tail)); (case zone => first | rfl | with_reducible assumption); (case zvn => first | rfl | simp); (case hn => first | rfl | simp); clear hR; intro w hR) | (refine' xAy hR rfl rfl rfl inferInstance ?hm ?hn ?_; (case hm => first | with_reducible assumption | repeat (first | exact .head _ | with_reducible assumption | apply mC)); (case hn => first | rfl | simp)) | (refine' xBb hR rfl rfl rfl inferInstance ?hm ?hv ?hn ?_; (case hm => first | with_reducible assumption | repeat (first | exact .head _ | with_reducible assumption | apply mC)); (case hv => first | with_reducible assumption | (simp only [kC, kD, kE, kF]; try rfl)); (case hn => first | rfl | simp)) | (refine' xCf hR rfl rfl rfl rfl (xCg _ _) ?_; clear hR; intro bt w hR) | (go_at_call 17; refine (fi _ _ _ (.head _) hR).mono ?_; clear hR; rintro e w ⟨rfl, hR⟩) | (go_at_call 15; refine (al _).mono ?_; rintro e w ⟨rfl, hb⟩; replace hR := hR.call hb; clear hb) | (go_at_call 12; refine (s1 _).mono ?_; rintro e w ⟨rfl, hb⟩; replace hR := hR.call hb; clear hb) | (go_at_call 12; refine (s2 _).mono ?_; rintro e w ⟨rfl, hb⟩; replace hR := hR.call hb; clear hb) | (go_at_call 20; refine (b1 _).mono ?_; rintro e w ⟨rfl, hb⟩; replace hR := hR.call hb; clear hb) | (go_at_call 20; refine (b2 _).mono ?_; rintro e w ⟨rfl, hb⟩; replace hR := hR.call hb; clear hb))
    go_ret
    exact ⟨rfl, hR.below⟩
  · have e0 : eqN x 0 = false := xCy (by omega) B_pos hx0
    obtain ⟨hgc, htold⟩ := two_told (d := d) gsq ls lC lC2 (by rw [hx]; exact hx0)
    rw [hx] at hgc
    rw [← eZ, ← eZ2, hy, hx] at htold
    obtain ⟨z, hz⟩ : ∃ z, invM x q = z := ⟨_, rfl⟩
    obtain ⟨lz, _⟩ := invM_spec q1 lx hgc
    rw [hz] at lz htold
    have v1 := sinv_lit (p := p) (g := g) (h := h) (e := 0) (r := z) (by omega : x < B) hq (by rw [if_pos (show okE x q from ⟨q1, lx⟩), hz]) (by unfold invE; rw [if_pos (show okE x q from ⟨q1, lx⟩), if_pos hgc])
    have m1 := smul_lit (p := p) (g := g) (h := h) (e := 0) (r := s) (by omega : y < B) (by omega : z < B) hq (by rw [if_pos ⟨q1, ly, lz⟩, htold]) (if_pos ⟨q1, ly, lz⟩)
    have es := eqN_self s
    clear hl gp gq gsp gsq gg ggh g1 g1h ls s0 ld d0 q1 hC hZ hC2 hZ2 lC lZ lC2 lZ2 hH hG eZ eZ2 hx hy lx ly hx0 hz lz htold hgc
    go_enter Try.func6, Try.ntmps6
    go_wp2_with (first | go_skip | (refine' xAf hR rfl rfl rfl ?_; clear hR; intro blk w hR) | (refine' xAb hR rfl rfl inferInstance ?_; clear hR; intro blk w hR) | (refine' xAc hR rfl rfl rfl inferInstance ?hm ?hn ?_; (case hm => first | with_reducible assumption | repeat (first | exact .head _ | with_reducible assumption | apply mC)); (case hn => first | rfl | simp)) | (refine' xAd hR rfl rfl rfl inferInstance ?hm ?hv ?hn ?_; (case hm => first | with_reducible assumption | repeat (first | exact .head _ | with_reducible assumption | apply mC)); (case hv => first | with_reducible assumption | (simp only [kC, kD, kE, kF]; try rfl)); (case hn => first | rfl | simp)) | (refine' xAa hR rfl rfl rfl inferInstance rfl ?hs ?zone ?zvn ?hn ?_; (case hs => repeat (first | exact xAh.head | apply xAh.tail)); (case zone => first | rfl | with_reducible assumption); (case zvn => first | rfl | simp); (case hn => first | rfl | simp); clear hR; intro w hR) | (refine' xAy hR rfl rfl rfl inferInstance ?hm ?hn ?_; (case hm => first | with_reducible assumption | repeat (first | exact .head _ | with_reducible assumption | apply mC)); (case hn => first | rfl | simp)) | (refine' xBb hR rfl rfl rfl inferInstance ?hm ?hv ?hn ?_; (case hm => first | with_reducible assumption | repeat (first | exact .head _ | with_reducible assumption | apply mC)); (case hv => first | with_reducible assumption | (simp only [kC, kD, kE, kF]; try rfl)); (case hn => first | rfl | simp)) | (refine' xCf hR rfl rfl rfl rfl (xCg _ _) ?_; clear hR; intro bt w hR) | (go_at_call 17; refine (fi _ _ _ (.head _) hR).mono ?_; clear hR; rintro e w ⟨rfl, hR⟩) | (go_at_call 15; refine (al _).mono ?_; rintro e w ⟨rfl, hb⟩; replace hR := hR.call hb; clear hb) | (go_at_call 12; refine (s1 _).mono ?_; rintro e w ⟨rfl, hb⟩; replace hR := hR.call hb; clear hb) | (go_at_call 12; refine (s2 _).mono ?_; rintro e w ⟨rfl, hb⟩; replace hR := hR.call hb; clear hb) | (go_at_call 20; refine (b1 _).mono ?_; rintro e w ⟨rfl, hb⟩; replace hR := hR.call hb; clear hb) | (go_at_call 20; refine (b2 _).mono ?_; rintro e w ⟨rfl, hb⟩; replace hR := hR.call hb; clear hb) | (go_at_call 21; refine (v1 _).mono ?_; rintro e w ⟨rfl, hb⟩; replace hR := hR.call hb; clear hb) | (go_at_call 22; refine (m1 _).mono ?_; rintro e w ⟨rfl, hb⟩; replace hR := hR.call hb; clear hb))
    go_ret
    exact ⟨rfl, hR.below⟩
end Go.Proofs.Ytklidiambinhkaa
