/- The walk of balefirelaw13.SigsBack. -/
import Derived.Test.YtklidiambinhkaaZSigLaw
import Derived.Test.YtklidiambinhkaaZGD
set_option linter.unusedVariables false
set_option linter.unusedSimpArgs false
namespace Go.Proofs.Ytklidiambinhkaa
open Go.RowKit
theorem wpList_threeG {P : Program} {ops : Array Oper} {rest : List Oper} {o : Oper} {a : Act} {w w0 : World} {Q : Exit → Act → World → Prop} {B0 : Nat} {L : List (Nat × Obj)} (hR : Rep B0 w0 L w) (hw : Region.wanted o (yielded ops a.tmps) = true) {ty el : TypeId} {x y z : Operand} (hop : o.op = .buildSlice ty 3 #[(0, x), (1, y), (2, z)]) {v u t : Value} {l : List Value} (hx : ev a x = some v) (hy : ev a y = some u) (hz : ev a z = some t)
    (hrun : ∀ w, (Instr.buildSlice ty 3 #[(0, v), (1, u), (2, t)]).run P w = .ok (.slice (some ⟨w.heap.size, 0, none⟩) 3 3) (w.alloc (.cells l.toArray el)))
    (h : ∀ b w', Rep B0 w0 ((b, .cells l.toArray el) :: L) w' → wpList P ops Q rest (a.put o.dst (.slice (some ⟨b, 0, none⟩) 3 3)) w') : wpList P ops Q (o :: rest) a w :=
  wpList_wanted hw fun _ hK => by
    have hx := xBs hx
    have hy := xBs hy
    have hz := xBs hz
    unfold Oper.wp execOp
    simp only [hop, List.map_toArray, List.map_cons, List.map_nil, hx, hy, hz, hrun, Sem.run_bind, Result.andThen_ok, Sem.run_pure]
    exact hK _ _ (h _ _ (hR.alloc _))
attribute [local irreducible] Calls Instr.build Instr.buildSlice
theorem chk_signed {p q g h s d : Nat} {H : Nat → Nat} (hp : p < B) (hq : q < B) (hgB : g < B) (hH : ∀ j, H j < 256) (hg : inG p q g) (g1 : g ≠ 1) (hq' : xDe q) (hs0 : s ≠ 0) (hs : s < q) {key C S : Nat} (hk : powN g s p = key) (hC : sigC p q g s d H = C) (hS : sigS p q g s d H = S) (w : World) :
    Calls Try.prog 14 #[grp p q g h, num key, .agg (u8s 32 H).toArray, sigV C S] w fun e' w' => e' = .returned (.bool true) ∧ Below w.heap.size w w' := by
  have k1 := signed_ok (H := H) (s := s) (d := d) hg g1 hq' hs0 hs
  rw [hk, hC, hS] at k1
  exact chk_lit hp hq hgB (by have := k1.1.1.2.2; omega) (by have := k1.2.2.1.2.1; omega) (by have := k1.2.2.1.2.2; omega) hH ⟨fun _ => k1, fun _ => rfl⟩ w
set_option maxRecDepth 100000 in
set_option maxHeartbeats 16000000 in
theorem sback_walk (p q g h : Nat) (hp : p < B) (hq : q < B) (hg : g < B) (hh : h < B) (s d k c S : Nat) (H : Nat → Nat) (o : Nat) (hs : s < B) (hd : d < B) (hk : k < B) (hc : c < B) (hS : S < B) (hH : ∀ j, H j < 256) (ho : o < B) (w : World) : Calls Try.prog 4 #[grp p q g h, gv s d k H c S, num o] w fun e w' =>
    e = .returned (.bool true) ∧ Below w.heap.size w w' := by
  classical
  have al := fun w => alive13_any w
  have tq := gl_q p q g h
  have tg := gl_g p q g h
  have t0 := gv_s s d k H c S
  have t1 := gv_d s d k H c S
  have t3 := gv_h s d k H c S
  change Calls Try.prog _ #[_, .agg (gvL s d k H c S).toArray, _] w _
  generalize gvL s d k H c S = row at *
  obtain ⟨W, hW⟩ : ∃ x, x = w := ⟨_, rfl⟩
  subst hW
  have fi := fun (r : Bool) (hr : r = true ↔ fineX p q g h [s, d, o]) (b : Nat) (L : List (Nat × Obj)) (w' : World) (hm : (b, Obj.cells (nl3x s d o).toArray 24) ∈ L) (hR : Rep W.heap.size W L w') => fine3_lit hp hq hg hh hs hd ho hr hm hR
  have hR := Rep.init W
  by_cases hf : fineX p q g h [s, d, o]
  case neg =>
    replace fi := fi false ⟨fun h => (by cases h), fun h => absurd h hf⟩
    clear hf
    go_enter Try.func4, Try.ntmps4
    go_wp2_with (first | go_skip | (refine' xAf hR rfl rfl rfl ?_; clear hR; intro blk w hR) | (refine' xAb hR rfl rfl inferInstance ?_; clear hR; intro blk w hR) | (refine' xAc hR rfl rfl rfl inferInstance ?hm ?hn ?_; (case hm => first | with_reducible assumption | repeat (first | exact .head _ | with_reducible assumption | apply mC)); (case hn => first | rfl | simp)) | (refine' xAd hR rfl rfl rfl inferInstance ?hm ?hv ?hn ?_; (case hm => first | with_reducible assumption | repeat (first | exact .head _ | with_reducible assumption | apply mC)); (case hv => first | with_reducible assumption | (simp only [kC, kD, kE, kF]; try rfl)); (case hn => first | rfl | simp)) | (refine' xAa hR rfl rfl rfl inferInstance rfl ?hs ?zone ?zvn ?hn ?_; (case hs => repeat (first | exact xAh.head | apply xAh.tail)); (case zone => first | rfl | with_reducible assumption); (case zvn => first | rfl | simp); (case hn => first | rfl | simp); clear hR; intro w hR) | (refine' xAy hR rfl rfl rfl inferInstance ?hm ?hn ?_; (case hm => first | with_reducible assumption | repeat (first | exact .head _ | with_reducible assumption | apply mC)); (case hn => first | rfl | simp)) | (refine' xBb hR rfl rfl rfl inferInstance ?hm ?hv ?hn ?_; (case hm => first | with_reducible assumption | repeat (first | exact .head _ | with_reducible assumption | apply mC)); (case hv => first | with_reducible assumption | (simp only [kC, kD, kE, kF]; try rfl)); (case hn => first | rfl | simp)) | (refine' wpList_threeG hR rfl rfl rfl rfl rfl (build_nums3 _ _ _) ?_; clear hR; intro bt w hR) | (go_at_call 17; refine (fi _ _ _ (.head _) hR).mono ?_; clear hR; rintro e w ⟨rfl, hR⟩) | (go_at_call 15; refine (al _).mono ?_; rintro e w ⟨rfl, hb⟩; replace hR := hR.call hb; clear hb))
    go_ret
    exact ⟨rfl, hR.below⟩
  replace fi := fi true ⟨fun _ => hf, fun _ => rfl⟩
  obtain ⟨hl, gp, gq, gsp, gsq, gg, ggh, g1, g1h⟩ := hf
  obtain ⟨ls, s0⟩ := hl s (by simp)
  obtain ⟨ld, d0⟩ := hl d (by simp)
  obtain ⟨lo, o0⟩ := hl o (by simp)
  have q1 : 1 < q := gsq.1
  obtain ⟨key, hkey⟩ : ∃ k, powN g s p = k := ⟨_, rfl⟩
  obtain ⟨C, hC⟩ : ∃ k, sigC p q g s d H = k := ⟨_, rfl⟩
  obtain ⟨Z, hZ⟩ : ∃ k, sigS p q g s d H = k := ⟨_, rfl⟩
  obtain ⟨C2, hC2⟩ : ∃ k, sigC p q g s o H = k := ⟨_, rfl⟩
  obtain ⟨Z2, hZ2⟩ : ∃ k, sigS p q g s o H = k := ⟨_, rfl⟩
  have x1 := gexp_lit (q := q) (g := g) (h := h) (r := key) (e := 0) hp hg hs (by rw [if_pos gg.1, hkey]) (if_pos gg.1)
  have s1 := fun w => sign_yes (h := h) hp hq hg hs hd hH (sign_may gg q1 s0 ls d0 ld) w
  have s2 := fun w => sign_yes (h := h) hp hq hg hs ho hH (sign_may gg q1 s0 ls o0 lo) w
  rw [hC, hZ] at s1
  rw [hC2, hZ2] at s2
  have c1 := fun w => chk_signed (h := h) (d := d) hp hq hg hH gg g1 gsq s0 ls hkey hC hZ w
  have c2 := fun w => chk_signed (h := h) (d := o) hp hq hg hH gg g1 gsq s0 ls hkey hC2 hZ2 w
  have lC : C < q := by rw [← hC]; exact sigC_lt q1
  have lZ : Z < q := by rw [← hZ]; exact sigS_lt q1
  have m1 := xCi (by omega : C < B) hq rfl
  have m2 := xCi (by omega : Z < B) hq rfl
  have k1 : decide (cmpN C q < 0) = true := decide_eq_true ((cmpN_lt C q).2 lC)
  have k2 : decide (cmpN Z q < 0) = true := decide_eq_true ((cmpN_lt Z q).2 lZ)
  generalize cmpN C q = z1 at *
  generalize cmpN Z q = z2 at *
  have es := eqS_self C Z
  have tz0 : ((nl2 C Z).drop 0).take 4 = nl C := rfl
  have tz4 : ((nl2 C Z).drop 4).take 4 = nl Z := rfl
  have hone := u8s_one 32 H
  clear hl gp gq gsp gsq gg ggh g1 g1h ls s0 ld d0 lo o0 q1 hkey hC hZ hC2 hZ2 lC lZ hH
  go_enter Try.func4, Try.ntmps4
  go_wp2_with (first | go_skip | (refine' xAf hR rfl rfl rfl ?_; clear hR; intro blk w hR) | (refine' xAb hR rfl rfl inferInstance ?_; clear hR; intro blk w hR) | (refine' xAc hR rfl rfl rfl inferInstance ?hm ?hn ?_; (case hm => first | with_reducible assumption | repeat (first | exact .head _ | with_reducible assumption | apply mC)); (case hn => first | rfl | simp)) | (refine' xAd hR rfl rfl rfl inferInstance ?hm ?hv ?hn ?_; (case hm => first | with_reducible assumption | repeat (first | exact .head _ | with_reducible assumption | apply mC)); (case hv => first | with_reducible assumption | (simp only [kC, kD, kE, kF]; try rfl)); (case hn => first | rfl | simp)) | (refine' xAa hR rfl rfl rfl inferInstance rfl ?hs ?zone ?zvn ?hn ?_; (case hs => repeat (first | exact xAh.head | apply xAh.tail)); (case zone => first | rfl | with_reducible assumption); (case zvn => first | rfl | simp); (case hn => first | rfl | simp); clear hR; intro w hR) | (refine' xAy hR rfl rfl rfl inferInstance ?hm ?hn ?_; (case hm => first | with_reducible assumption | repeat (first | exact .head _ | with_reducible assumption | apply mC)); (case hn => first | rfl | simp)) | (refine' xBb hR rfl rfl rfl inferInstance ?hm ?hv ?hn ?_; (case hm => first | with_reducible assumption | repeat (first | exact .head _ | with_reducible assumption | apply mC)); (case hv => first | with_reducible assumption | (simp only [kC, kD, kE, kF]; try rfl)); (case hn => first | rfl | simp)) | (refine' wpList_threeG hR rfl rfl rfl rfl rfl (build_nums3 _ _ _) ?_; clear hR; intro bt w hR) | (go_at_call 17; refine (fi _ _ _ (.head _) hR).mono ?_; clear hR; rintro e w ⟨rfl, hR⟩) | (go_at_call 15; refine (al _).mono ?_; rintro e w ⟨rfl, hb⟩; replace hR := hR.call hb; clear hb) | (go_at_call 18; refine (x1 _).mono ?_; rintro e w ⟨rfl, hb⟩; replace hR := hR.call hb; clear hb) | (go_at_call 12; refine (s1 _).mono ?_; rintro e w ⟨rfl, hb⟩; replace hR := hR.call hb; clear hb) | (go_at_call 12; refine (s2 _).mono ?_; rintro e w ⟨rfl, hb⟩; replace hR := hR.call hb; clear hb) | (go_at_call 14; refine (c1 _).mono ?_; rintro e w ⟨rfl, hb⟩; replace hR := hR.call hb; clear hb) | (go_at_call 14; refine (c2 _).mono ?_; rintro e w ⟨rfl, hb⟩; replace hR := hR.call hb; clear hb) | (go_at_call 13; refine (m1 _).mono ?_; rintro e w ⟨rfl, hb⟩; replace hR := hR.call hb; clear hb) | (go_at_call 13; refine (m2 _).mono ?_; rintro e w ⟨rfl, hb⟩; replace hR := hR.call hb; clear hb))
  go_ret
  exact ⟨rfl, hR.below⟩
end Go.Proofs.Ytklidiambinhkaa
