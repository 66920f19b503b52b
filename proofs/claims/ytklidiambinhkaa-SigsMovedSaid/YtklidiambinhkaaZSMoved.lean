/- The walk of balefirelaw13.SigsMoved. -/
import Derived.Test.YtklidiambinhkaaZSBack
set_option linter.unusedVariables false
set_option linter.unusedSimpArgs false
namespace Go.Proofs.Ytklidiambinhkaa
open Go.RowKit
theorem moved_sum {q d m y : Nat} : ((d + m) % q + y) % q = ((d + y) % q + m) % q := by
  rw [Nat.mod_add_mod, Nat.mod_add_mod, Nat.add_right_comm]
theorem moved_ok {p q g s d y : Nat} {H : Nat → Nat} (hg : inG p q g) (g1 : g ≠ 1) (hq : xDe q) (hs0 : s ≠ 0) (hs : s < q) : chkOk p q g (powN g s p) H (sigC p q g s d H) ((sigS p q g s d H + y) % q) ↔ sigC p q g s ((d + y) % q) H = sigC p q g s d H := by
  have h1 : 1 < q := hq.1
  have e : chkR p q g (powN g s p) (sigC p q g s d H) ((sigS p q g s d H + y) % q) = powN g ((d + y) % q) p := by
    unfold chkR
    rw [show (sigS p q g s d H + y) % q = ((d + y) % q + mulN s (sigC p q g s d H) q) % q by unfold sigS; exact moved_sum]
    exact back_pow hg h1 (sigC_lt h1)
  unfold chkOk
  rw [e]
  constructor
  · rintro ⟨_, _, _, _, h⟩
    exact h
  · intro h
    exact ⟨in_exp (by omega) hg s, fun h => hs0 (pow_nought hg hq g1 hs h), ⟨h1, sigC_lt h1, Nat.mod_lt _ (by omega)⟩, hg.1, h⟩
attribute [local irreducible] Calls Instr.build Instr.buildSlice
set_option maxRecDepth 100000 in
set_option maxHeartbeats 16000000 in
theorem smoved_walk (p q g h : Nat) (hp : p < B) (hq : q < B) (hg : g < B) (hh : h < B) (s d k c S : Nat) (H : Nat → Nat) (y : Nat) (hs : s < B) (hd : d < B) (hk : k < B) (hc : c < B) (hS : S < B) (hH : ∀ j, H j < 256) (hy : y < B) (w : World) : Calls Try.prog 5 #[grp p q g h, gv s d k H c S, num y] w fun e w' =>
    e = .returned (.bool true) ∧ Below w.heap.size w w' := by
  classical
  have al := fun w => alive13_any w
  have tq := gl_q p q g h
  have tg := gl_g p q g h
  have t0 := gv_s s d k H c S
  have t1 := gv_d s d k H c S
  have t3 := gv_h s d k H c S
  change Calls Try.prog _ #[_, .agg (gvL s d k H c S).toArray, _] w _
  generalize gvL s d k H c S = row at *
  obtain ⟨W, hW⟩ : ∃ x, x = w := ⟨_, rfl⟩
  subst hW
  have fi := fun (r : Bool) (hr : r = true ↔ fineX p q g h [s, d]) (b : Nat) (L : List (Nat × Obj)) (w' : World) (hm : (b, Obj.cells (nl2 s d).toArray 24) ∈ L) (hR : Rep W.heap.size W L w') => fine2_lit hp hq hg hh hs hd hr hm hR
  have hone := u8s_one 32 H
  have m1 := xCi hy hq rfl
  have k1 := cmpN_ge y q
  generalize cmpN y q = z1 at *
  have hR := Rep.init W
  by_cases hf : fineX p q g h [s, d]
  case neg =>
    replace fi := fi false ⟨fun h => (by cases h), fun h => absurd h hf⟩
    clear hf k1
    go_enter Try.func5, Try.ntmps5
    go_wp2_with (first | go_skip | (refine' xAf hR rfl rfl rfl ?_; clear hR; intro blk w hR) | (refine' xAb hR rfl rfl inferInstance ?_; clear hR; intro blk w hR) | (refine' xAc hR rfl rfl rfl inferInstance ?hm ?hn ?_; (case hm => first | with_reducible assumption | repeat (first | exact .head _ | with_reducible assumption | apply mC)); (case hn => first | rfl | simp)) | (refine' xAd hR rfl rfl rfl inferInstance ?hm ?hv ?hn ?_; (case hm => first | with_reducible assumption | repeat (first | exact .head _ | with_reducible assumption | apply mC)); (case hv => first | with_reducible assumption | (simp only [kC, kD, kE, kF]; try rfl)); (case hn => first | rfl | simp)) | (refine' xAa hR rfl rfl rfl inferInstance rfl ?hs ?zone ?zvn ?hn ?_; (case hs => repeat (first | exact xAh.head | apply xAh.tail)); (case zone => first | rfl | with_reducible assumption); (case zvn => first | rfl | simp); (case hn => first | rfl | simp); clear hR; intro w hR) | (refine' xAy hR rfl rfl rfl inferInstance ?hm ?hn ?_; (case hm => first | with_reducible assumption | repeat (first | exact .head _ | with_reducible assumption | apply mC)); (case hn => first | rfl | simp)) | (refine' xBb hR rfl rfl rfl inferInstance ?hm ?hv ?hn ?_; (case hm => first | with_reducible assumption | repeat (first | exact .head _ | with_reducible assumption | apply mC)); (case hv => first | with_reducible assumption | (simp only [kC, kD, kE, kF]; try rfl)); (case hn => first | rfl | simp)) | (refine' xCf hR rfl rfl rfl rfl (xCg _ _) ?_; clear hR; intro bt w hR) | (go_at_call 17; refine (fi _ _ _ (.head _) hR).mono ?_; clear hR; rintro e w ⟨rfl, hR⟩) | (go_at_call 15; refine (al _).mono ?_; rintro e w ⟨rfl, hb⟩; replace hR := hR.call hb; clear hb))
    go_ret
    exact ⟨rfl, hR.below⟩
  replace fi := fi true ⟨fun _ => hf, fun _ => rfl⟩
  by_cases ly : q ≤ y
  · have k2 : decide (0 ≤ z1) = true := decide_eq_true (k1.2 ly)
    clear hf k1 ly
    go_enter Try.func5, Try.ntmps5
    go_wp2_with (first | go_skip | (refine' xAf hR rfl rfl rfl ?_; clear hR; intro blk w hR) | (refine' xAb hR rfl rfl inferInstance ?_; clear hR; intro blk w hR) | (refine' xAc hR rfl rfl rfl inferInstance ?hm ?hn ?_; (case hm => first | with_reducible assumption | repeat (first | exact .head _ | with_reducible assumption | apply mC)); (case hn => first | rfl | simp)) | (refine' xAd hR rfl rfl rfl inferInstance ?hm ?hv ?hn ?_; (case hm => first | with_reducible assumption | repeat (first | exact .head _ | with_reducible assumption | apply mC)); (case hv => first | with_reducible assumption | (simp only [kC, kD, kE, kF]; try rfl)); (case hn => first | rfl | simp)) | (refine' xAa hR rfl rfl rfl inferInstance rfl ?hs ?zone ?zvn ?hn ?_; (case hs => repeat (first | exact xAh.head | apply xAh.tail)); (case zone => first | rfl | with_reducible assumption); (case zvn => first | rfl | simp); (case hn => first | rfl | simp); clear hR; intro w hR) | (refine' xAy hR rfl rfl rfl inferInstance ?hm ?hn ?_; (case hm => first | with_reducible assumption | repeat (first | exact .head _ | with_reducible assumption | apply mC)); (case hn => first | rfl | simp)) | (refine' xBb hR rfl rfl rfl inferInstance ?hm ?hv ?hn ?_; (case hm => first | with_reducible assumption | repeat (first | exact .head _ | with_reducible assumption | apply mC)); (case hv => first | with_reducible assumption | (simp only [kC, kD, kE, kF]; try rfl)); (case hn => first | rfl | simp)) | (refine' xCf hR rfl rfl rfl rfl (xCg _ _) ?_; clear hR; intro bt w hR) | (go_at_call 17; refine (fi _ _ _ (.head _) hR).mono ?_; clear hR; rintro e w ⟨rfl, hR⟩) | (go_at_call 15; refine (al _).mono ?_; rintro e w ⟨rfl, hb⟩; replace hR := hR.call hb; clear hb) | (go_at_call 13; refine (m1 _).mono ?_; rintro e w ⟨rfl, hb⟩; replace hR := hR.call hb; clear hb))
    go_ret
    exact ⟨rfl, hR.below⟩
  have k2 : decide (0 ≤ z1) = false := decide_eq_false fun h => ly (k1.1 h)
  obtain ⟨hl, gp, gq, gsp, gsq, gg, ggh, g1, g1h⟩ := hf
  obtain ⟨ls, s0⟩ := hl s (by simp)
  obtain ⟨ld, d0⟩ := hl d (by simp)
  have q1 : 1 < q := gsq.1
  obtain ⟨key, hkey⟩ : ∃ k, powN g s p = k := ⟨_, rfl⟩
  have mo := moved_ok (H := H) (d := d) (y := y) gg g1 gsq s0 ls
  obtain ⟨x, hx⟩ : ∃ x, (d + y) % q = x := ⟨_, rfl⟩
  have lx : x < q := by rw [← hx]; exact Nat.mod_lt _ (by omega)
  rw [hx, hkey] at mo
  obtain ⟨C, hC⟩ : ∃ k, sigC p q g s d H = k := ⟨_, rfl⟩
  obtain ⟨Z, hZ⟩ : ∃ k, sigS p q g s d H = k := ⟨_, rfl⟩
  obtain ⟨C2, hC2⟩ : ∃ k, sigC p q g s x H = k := ⟨_, rfl⟩
  obtain ⟨Z2, hZ2⟩ : ∃ k, sigS p q g s x H = k := ⟨_, rfl⟩
  obtain ⟨Z3, hZ3⟩ : ∃ k, (Z + y) % q = k := ⟨_, rfl⟩
  rw [hC, hC2, hZ, hZ3] at mo
  have lC : C < q := by rw [← hC]; exact sigC_lt q1
  have lZ : Z < q := by rw [← hZ]; exact sigS_lt q1
  have lC2 : C2 < q := by rw [← hC2]; exact sigC_lt q1
  have lZ3 : Z3 < q := by rw [← hZ3]; exact Nat.mod_lt _ (by omega)
  have lkey : key < B := by have := pow_lt' gg.1.1 g s; have := hp; omega
  have x1 := gexp_lit (q := q) (g := g) (h := h) (r := key) (e := 0) hp hg hs (by rw [if_pos gg.1, hkey]) (if_pos gg.1)
  have s1 := fun w => sign_yes (h := h) hp hq hg hs hd hH (sign_may gg q1 s0 ls d0 ld) w
  rw [hC, hZ] at s1
  have a1 := sadd_lit (p := p) (g := g) (h := h) (e := 0) (r := x) hd hy hq (by rw [if_pos ⟨q1, ld, by omega⟩, hx]) (if_pos ⟨q1, ld, by omega⟩)
  by_cases hx0 : x = 0
  · have e0 : eqN x 0 = true := eqN_yes hx0
    clear hl gp gq gsp gsq gg ggh g1 g1h ls s0 ld d0 q1 hkey hC hZ hC2 hZ2 hZ3 lC lZ lC2 lZ3 hH mo hx lx hx0 k1 ly lkey
    go_enter Try.func5, Try.ntmps5
    go_wp2_with (first | go_skip | (refine' xAf hR rfl rfl rfl ?_; clear hR; intro blk w hR) | (refine' xAb hR rfl rfl inferInstance ?_; clear hR; intro blk w hR) | (refine' xAc hR rfl rfl rfl inferInstance ?hm ?hn ?_; (case hm => first | with_reducible assumption | repeat (first | exact .head _ | with_reducible assumption | apply mC)); (case hn => first | rfl | simp)) | (refine' xAd hR rfl rfl rfl inferInstance ?hm ?hv ?hn ?_; (case hm => first | with_reducible assumption | repeat (first | exact .head _ | with_reducible assumption | apply mC)); (case hv => first | with_reducible assumption | (simp only [kC, kD, kE, kF]; try rfl)); (case hn => first | rfl | simp)) | (refine' xAa hR rfl rfl rfl inferInstance rfl ?hs ?zone ?zvn ?hn ?_; (case hs => repeat (first | exact xAh.head | apply xAh.tail)); (case zone => first | rfl | with_reducible assumption); (case zvn => first | rfl | simp); (case hn => first | rfl | simp); clear hR; intro w hR) | (refine' xAy hR rfl rfl rfl inferInstance ?hm ?hn ?_; (case hm => first | with_reducible assumption | repeat (first | exact .head _ | with_reducible assumption | apply mC)); (case hn => first | rfl | simp)) | (refine' xBb hR rfl rfl rfl inferInstance ?hm ?hv ?hn ?_; (case hm => first | with_reducible assumption | repeat (first | exact .head _ | with_reducible assumption | apply mC)); (case hv => first | with_reducible assumption | (simp only [kC, kD, kE, kF]; try rfl)); (case hn => first | rfl | simp)) | (refine' xCf hR rfl rfl rfl rfl (xCg _ _) ?_; clear hR; intro bt w hR) | (go_at_call 17; refine (fi _ _ _ (.head _) hR).mono ?_; clear hR; rintro e w ⟨rfl, hR⟩) | (go_at_call 15; refine (al _).mono ?_; rintro e w ⟨rfl, hb⟩; replace hR := hR.call hb; clear hb) | (go_at_call 13; refine (m1 _).mono ?_; rintro e w ⟨rfl, hb⟩; replace hR := hR.call hb; clear hb) | (go_at_call 18; refine (x1 _).mono ?_; rintro e w ⟨rfl, hb⟩; replace hR := hR.call hb; clear hb) | (go_at_call 12; refine (s1 _).mono ?_; rintro e w ⟨rfl, hb⟩; replace hR := hR.call hb; clear hb) | (go_at_call 19; refine (a1 _).mono ?_; rintro e w ⟨rfl, hb⟩; replace hR := hR.call hb; clear hb))
    go_ret
    exact ⟨rfl, hR.below⟩
  have e0 : eqN x 0 = false := xCy (by omega) B_pos hx0
  have s2 := fun w => sign_yes (h := h) hp hq hg hs (by omega : x < B) hH (sign_may gg q1 s0 ls hx0 lx) w
  rw [hC2, hZ2] at s2
  have a2 := sadd_lit (p := p) (g := g) (h := h) (e := 0) (r := Z3) (by omega : Z < B) hy hq (by rw [if_pos ⟨q1, lZ, by omega⟩, hZ3]) (if_pos ⟨q1, lZ, by omega⟩)
  have tz0 : ((nl2 C Z).drop 0).take 4 = nl C := rfl
  have tz4 : ((nl2 C Z).drop 4).take 4 = nl Z := rfl
  have ty0 : ((nl2 C2 Z2).drop 0).take 4 = nl C2 := rfl
  have tw : (nl2 C Z).take 4 ++ nl Z3 ++ (nl2 C Z).drop (4 + 4) = nl2 C Z3 := rfl
  obtain ⟨res, hres⟩ : ∃ r, eqN C2 C = r := ⟨_, rfl⟩
  have c1 := fun w => chk_lit (h := h) (res := res) hp hq hg lkey (by omega : C < B) (by omega : Z3 < B) hH (by
    rw [mo, ← hres]
    exact ⟨fun h => Classical.byContradiction fun h' => (by rw [xCy (by omega) (by omega) h'] at h; cases h), eqN_yes⟩) w
  clear hl gp gq gsp gsq gg ggh g1 g1h ls s0 ld d0 q1 hkey hC hZ hC2 hZ2 hZ3 lC lZ lC2 lZ3 hH mo hx lx hx0 k1 ly lkey
  cases res
  all_goals
    go_enter Try.func5, Try.ntmps5
    go_wp2_with (first | go_skip | (refine' xAf hR rfl rfl rfl ?_; clear hR; intro blk w hR) | (refine' xAb hR rfl rfl inferInstance ?_; clear hR; intro blk w hR) | (refine' xAc hR rfl rfl rfl inferInstance ?hm ?hn ?_; (case hm => first | with_reducible assumption | repeat (first | exact .head _ | with_reducible assumption | apply mC)); (case hn => first | rfl | simp)) | (refine' xAd hR rfl rfl rfl inferInstance ?hm ?hv ?hn ?_; (case hm => first | with_reducible assumption | repeat (first | exact .head _ | with_reducible assumption | apply mC)); (case hv => first | with_reducible assumption | (simp only [kC, kD, kE, kF]; try rfl)); (case hn => first | rfl | simp)) | (refine' xAa hR rfl rfl rfl inferInstance rfl ?hs ?zone ?zvn ?hn ?_; (case hs => repeat (first | exact xAh.head | apply xAh.tail)); (case zone => first | rfl | with_reducible assumption); (case zvn => first | rfl | simp); (case hn => first | rfl | simp); clear hR; intro w hR) | (refine' xAy hR rfl rfl rfl inferInstance ?hm ?hn ?_; (case hm => first | with_reducible assumption | repeat (first | exact .head _ | with_reducible assumption | apply mC)); (case hn => first | rfl | simp)) | (refine' xBb hR rfl rfl rfl inferInstance ?hm ?hv ?hn ?_; (case hm => first | with_reducible assumption | repeat (first | exact .head _ | with_reducible assumption | apply mC)); (case hv => first | with_reducible assumption | (simp only [kC, kD, kE, kF]; try rfl)); (case hn => first | rfl | simp)) | (refine' xCf hR rfl rfl rfl rfl (xCg _ _) ?_; clear hR; intro bt w hR) | (go_at_call 17; refine (fi _ _ _ (.head _) hR).mono ?_; clear hR; rintro e w ⟨rfl, hR⟩) | (go_at_call 13; refine (m1 _).mono ?_; rintro e w ⟨rfl, hb⟩; replace hR := hR.call hb; clear hb) | (go_at_call 18; refine (x1 _).mono ?_; rintro e w ⟨rfl, hb⟩; replace hR := hR.call hb; clear hb) | (go_at_call 12; refine (s1 _).mono ?_; rintro e w ⟨rfl, hb⟩; replace hR := hR.call hb; clear hb) | (go_at_call 12; refine (s2 _).mono ?_; rintro e w ⟨rfl, hb⟩; replace hR := hR.call hb; clear hb) | (go_at_call 19; refine (a1 _).mono ?_; rintro e w ⟨rfl, hb⟩; replace hR := hR.call hb; clear hb) | (go_at_call 19; refine (a2 _).mono ?_; rintro e w ⟨rfl, hb⟩; replace hR := hR.call hb; clear hb) | (refine' wpList_storeRow hR rfl rfl rfl inferInstance rfl rfl rfl ?hs ?hn ?hl ?_; (case hs => repeat (first | exact xAh.head | apply xAh.tail)); (case hn => exact Nat.le_refl 8); (case hl => with_reducible assumption); clear hR; intro w hR))
    refine xAn hR [0, 0, 0, 0, 0, 0, 0, 0, 0, 0, 0, 0, 0, 0, 0, 0, 0, 0, 0, 0, 0, 0, 0, 2] [] xCu (by kernel_rfl) rfl rfl (fun K hK => ?_)
    clear hR
    repeat ((first | (refine xBo ?_) | (refine' xAv (by decide) rfl (.inl rfl) rfl ?ha ?_) | (refine' xAv (by decide) rfl (.inr rfl) rfl ?ha ?_) | (refine' xAu rfl rfl rfl inferInstance ?hm ?hn ?ha ?_; (case hm => first | with_reducible assumption | repeat (first | exact .head _ | with_reducible assumption | apply mC)); (case hn => first | rfl | simp)) | (refine' xAp rfl rfl rfl inferInstance ?hm ?hv ?hn ?ha ?_; (case hm => first | with_reducible assumption | repeat (first | exact .head _ | with_reducible assumption | apply mC)); (case hv => first | with_reducible assumption | (simp only [kC, kD, kE, kF]; try rfl)); (case hn => first | rfl | simp)) | (refine' xAl rfl rfl rfl inferInstance ?hm ?hv ?ha ?_; (case hm => first | with_reducible assumption | repeat (first | exact .head _ | with_reducible assumption | apply mC)); (case hv => first | rfl | with_reducible assumption)) | (refine' xAq rfl rfl rfl inferInstance ?hm ?hv ?hn ?ha ?_; (case hm => first | with_reducible assumption | repeat (first | exact .head _ | with_reducible assumption | apply mC)); (case hv => first | with_reducible assumption | (simp only [kC, kD, kE, kF]; try rfl)); (case hn => first | rfl | simp)) | (refine' xAm rfl rfl rfl inferInstance ?hm ?hv ?ha ?_; (case hm => first | with_reducible assumption | repeat (first | exact .head _ | with_reducible assumption | apply mC)); (case hv => first | rfl | with_reducible assumption)) | ((first | refine' xAi (by decide) rfl rfl rfl rfl (fun w => ?hq) ?ha ?_ | refine' xBe (by decide) rfl rfl rfl rfl (fun w => ?hq) ?ha ?_ | refine' xAs (by decide) rfl rfl rfl (fun w => ?hq) ?ha ?_ | refine' xAj (by decide) rfl rfl rfl (fun w => ?hq) ?ha ?_ | refine' xAt (by decide) rfl rfl rfl (fun w => ?hq) ?ha ?_ | refine' xBh (by decide) rfl rfl rfl rfl (fun w => ?hq) ?ha ?_ | refine' xBg (by decide) rfl rfl rfl rfl rfl rfl (fun w => ?hq) ?ha ?_ | refine' xBd (by decide) rfl rfl (fun w => ?hq) ?ha ?_ | refine' xAr (by decide) rfl rfl rfl (fun w => ?hq) ?ha ?_ | refine' xBf (by decide) rfl rfl rfl (fun w => ?hq) ?ha ?_); (case hq => go_simp; try rfl)) | (refine' xAk (by decide) rfl rfl rfl ?ha ?_) | (refine' xBp (by decide) rfl rfl rfl rfl ?ha ?_) | (refine' xBn (by decide) rfl ?ha ?_) | (refine' xBi rfl rfl rfl (xBm Try.func15 (by kernel_rfl) (by kernel_rfl) _) (fun w => al w) ?ha ?_) | (refine' xBi rfl rfl rfl (xBm Try.func14 (by kernel_rfl) (by kernel_rfl) _) (fun w => c1 w) ?ha ?_)); try (case ha => simp only [kP, kQ, kA, kB]; try rfl))
    refine xBt (hK _ _ ?_)
    clear hK K
    refine xBy (fun Q hQ => ?_)
    try simp only [List.nil_append, List.cons_append]
    repeat ((first | refine' xBa rfl (.inl rfl) rfl ?hk ?ha ?_ | refine' xBa rfl (.inr rfl) rfl ?hk ?ha ?_ | (refine' xAx rfl rfl rfl inferInstance rfl ?hs rfl rfl ?hn ?hk ?ha ?_; (case hs => repeat (first | exact xAh.head | apply xAh.tail)); (case hn => first | rfl | simp)) | (refine' xAo rfl rfl rfl inferInstance rfl rfl ?hs ?hn ?hl ?hk ?ha ?_; (case hs => repeat (first | exact xAh.head | apply xAh.tail)); (case hn => first | exact oD rfl | (show _ < 4; with_reducible assumption) | (simp; try omega)); (case hl => first | with_reducible assumption | (simp only [nl, kA, kB]; first | done | rfl) | rfl)) | (refine' xAw rfl rfl rfl inferInstance rfl rfl ?hvn ?hs ?hn ?hl ?hk ?ha ?_; (case hvn => first | rfl | simp); (case hs => repeat (first | exact xAh.head | apply xAh.tail)); (case hn => first | exact oD rfl | (show _ < 4; with_reducible assumption) | (simp; try omega)); (case hl => first | with_reducible assumption | (simp only [nl, kA, kB]; first | done | rfl) | rfl)) | (refine' xBq rfl (fun w => ?hq) ?hk ?ha ?_; (case hq => go_simp; try rfl))); (case hk => intro p hp; first | exact absurd hp List.not_mem_nil | (obtain rfl := List.mem_singleton.1 hp; repeat (first | exact List.Mem.head _ | with_reducible assumption | apply mC))); (case ha => simp only [kP, kQ, kA, kB]; try rfl))
    refine xBz (fun w hR => hQ _ _ ?_)
    clear hQ Q
    go_wp2_with (first | (refine' xAf hR rfl rfl rfl ?_; clear hR; intro blk w hR) | (refine' xAb hR rfl rfl inferInstance ?_; clear hR; intro blk w hR) | (refine' xAc hR rfl rfl rfl inferInstance ?hm ?hn ?_; (case hm => first | with_reducible assumption | repeat (first | exact .head _ | with_reducible assumption | apply mC)); (case hn => first | rfl | simp)) | (refine' xAd hR rfl rfl rfl inferInstance ?hm ?hv ?hn ?_; (case hm => first | with_reducible assumption | repeat (first | exact .head _ | with_reducible assumption | apply mC)); (case hv => first | with_reducible assumption | (simp only [kC, kD, kE, kF]; try rfl)); (case hn => first | rfl | simp)) | (refine' xAa hR rfl rfl rfl inferInstance rfl ?hs ?zone ?zvn ?hn ?_; (case hs => repeat (first | exact xAh.head | apply xAh.tail)); (case zone => first | rfl | with_reducible assumption); (case zvn => first | rfl | simp); (case hn => first | rfl | simp); clear hR; intro w hR) | fail)
    go_ret
    exact ⟨rfl, hR.below⟩
end Go.Proofs.Ytklidiambinhkaa
