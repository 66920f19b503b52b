/- The walk of balefirelaw14.ProofsMoved. -/
import Derived.Test.YtklidiambinhkaaVPrfAl
set_option linter.unusedVariables false
set_option linter.unusedSimpArgs false
namespace Go.Proofs.Ytklidiambinhkaa
open Go.RowKit
attribute [local irreducible] Calls Instr.build Instr.buildSlice
theorem pmoved_sum {q d m y : Nat} : ((d + m) % q + y) % q = ((d + y) % q + m) % q := by
  rw [Nat.mod_add_mod, Nat.mod_add_mod, Nat.add_right_comm]
theorem pmoved_ok {p q x base y d o : Nat} {s : ByteArray} (hb : inG p q base) (hy : inG p q y) (h1 : 1 < q) : pchkOk p q s base (powN base x p) y (powN y x p) (prC p q s x base y d) ((prS p q s x base y d + o) % q) ↔ prC p q s x base y ((d + o) % q) = prC p q s x base y d := by
  have e : ∀ z, inG p q z → meetN p q z ((prS p q s x base y d + o) % q) (powN z x p) (prC p q s x base y d) = powN z ((d + o) % q) p := fun z hz => by
    unfold meetN
    rw [show (prS p q s x base y d + o) % q = ((d + o) % q + mulN x (prC p q s x base y d) q) % q by unfold prS; exact pmoved_sum]
    exact back_pow hz h1 (prC_lt h1)
  unfold pchkOk
  rw [e base hb, e y hy]
  constructor
  · rintro ⟨_, _, _, h⟩
    exact h
  · intro h
    exact ⟨⟨hb, in_exp (by omega) hb x, hy, in_exp (by omega) hy x⟩, ⟨h1, prC_lt h1⟩, ⟨h1, Nat.mod_lt _ (by omega)⟩, h⟩
@[simp] theorem len_pmoved_walk (s : ByteArray) (x base y a b d c S : Nat) : (pvL s x base y a b d c S).length = 33 := rfl
set_option maxRecDepth 100000 in
set_option maxHeartbeats 16000000 in
theorem pmoved_walk (p q g h : Nat) (hp : p < B) (hq : q < B) (hg : g < B) (hh : h < B) (s : ByteArray) (x base y a b d c S : Nat) (o : Nat) (hx : x < B) (hb : base < B) (hy : y < B) (ha : a < B) (hb' : b < B) (hd : d < B) (hc : c < B) (hS : S < B) (ho : o < B) (w : World) : Calls Try.prog 10 #[grp p q g h, pv s x base y a b d c S, num o] w fun e w' =>
    e = .returned (.bool true) ∧ Below w.heap.size w w' := by
  classical
  have al := fun w => alive14_any w
  have tq := gl_q p q g h
  have ts : (pvL s x base y a b d c S)[0]? = some (.string s) := rfl
  have t1 : ((pvL s x base y a b d c S).drop 1).take 4 = nl x := rfl
  have t5 : ((pvL s x base y a b d c S).drop 5).take 4 = nl base := rfl
  have t9 : ((pvL s x base y a b d c S).drop 9).take 4 = nl y := rfl
  have t21 : ((pvL s x base y a b d c S).drop 21).take 4 = nl d := rfl
  have hrow : (pvL s x base y a b d c S).length = 33 := rfl
  change Calls Try.prog _ #[_, .agg (pvL s x base y a b d c S).toArray, _] w _
  have fi := fun (r : Bool) (hr : r = true ↔ fineP p q g h s x base y d) => fine14_lit hp hq hg hh hx hb hy hd hrow ts t1 t5 t9 t21 hr
  have m1 := xCj ho hq rfl
  have k1 := cmpN_ge o q
  generalize cmpN o q = z1 at *
  by_cases hf : fineP p q g h s x base y d
  case neg =>
    replace fi := fi false ⟨fun h => (by cases h), fun h => absurd h hf⟩
    clear hf k1
    have hR := Rep.init w
    go_enter Try.func10, Try.ntmps10
    go_wp2_with (first | go_skip | (refine' xAg hR rfl rfl rfl ?_; clear hR; intro blk w hR) | (refine' xAb hR rfl rfl inferInstance ?_; clear hR; intro blk w hR) | (refine' xAd hR rfl rfl rfl inferInstance ?hm ?hn ?_; (case hm => first | with_reducible assumption | repeat (first | exact .head _ | with_reducible assumption | apply mC)); (case hn => first | rfl | simp)) | (refine' xAe hR rfl rfl rfl inferInstance ?hm ?hv ?hn ?_; (case hm => first | with_reducible assumption | repeat (first | exact .head _ | with_reducible assumption | apply mC)); (case hv => first | with_reducible assumption | (simp only [kC, kD, kE, kF]; try rfl)); (case hn => first | rfl | simp)) | (refine' xAf hR rfl rfl rfl inferInstance ?hm ?hv ?_; (case hm => first | with_reducible assumption | repeat (first | exact .head _ | with_reducible assumption | apply mC)); (case hv => first | rfl | with_reducible assumption)) | (refine' xAa hR rfl rfl rfl inferInstance rfl ?hs ?zone ?zvn ?hn ?_; (case hs => repeat (first | exact xAh.head | apply xAh.tail)); (case zone => first | rfl | with_reducible assumption); (case zvn => first | rfl | simp); (case hn => first | rfl | simp); clear hR; intro w hR) | (refine' xAc hR rfl rfl rfl inferInstance rfl rfl ?hs ?hn ?hl ?_; (case hs => repeat (first | exact xAh.head | apply xAh.tail)); (case hn => first | exact oD rfl | (show _ < 4; with_reducible assumption) | (simp; try omega)); (case hl => first | with_reducible assumption | (simp only [nl, kA, kB]; first | done | rfl) | rfl); clear hR; intro w hR) | (refine' xAy hR rfl rfl rfl inferInstance ?hm ?hn ?_; (case hm => first | with_reducible assumption | repeat (first | exact .head _ | with_reducible assumption | apply mC)); (case hn => first | rfl | simp)) | (refine' xBt hR rfl rfl rfl inferInstance ?hm ?hv ?_; (case hm => first | with_reducible assumption | repeat (first | exact .head _ | with_reducible assumption | apply mC)); (case hv => first | rfl | with_reducible assumption)) | (refine' xBb hR rfl rfl rfl inferInstance ?hm ?hv ?hn ?_; (case hm => first | with_reducible assumption | repeat (first | exact .head _ | with_reducible assumption | apply mC)); (case hv => first | with_reducible assumption | (simp only [kC, kD, kE, kF]; try rfl)); (case hn => first | rfl | simp)) | (go_at_call 26; refine (fi _).mono ?_; rintro e w ⟨rfl, hb⟩; replace hR := hR.call hb; clear hb) | (go_at_call 23; refine (al _).mono ?_; rintro e w ⟨rfl, hb⟩; replace hR := hR.call hb; clear hb))
    go_ret
    exact ⟨rfl, hR.below⟩
  replace fi := fi true ⟨fun _ => hf, fun _ => rfl⟩
  by_cases lo : q ≤ o
  · have k2 : decide (0 ≤ z1) = true := decide_eq_true (k1.2 lo)
    clear hf k1 lo
    have hR := Rep.init w
    go_enter Try.func10, Try.ntmps10
    go_wp2_with (first | go_skip | (refine' xAg hR rfl rfl rfl ?_; clear hR; intro blk w hR) | (refine' xAb hR rfl rfl inferInstance ?_; clear hR; intro blk w hR) | (refine' xAd hR rfl rfl rfl inferInstance ?hm ?hn ?_; (case hm => first | with_reducible assumption | repeat (first | exact .head _ | with_reducible assumption | apply mC)); (case hn => first | rfl | simp)) | (refine' xAe hR rfl rfl rfl inferInstance ?hm ?hv ?hn ?_; (case hm => first | with_reducible assumption | repeat (first | exact .head _ | with_reducible assumption | apply mC)); (case hv => first | with_reducible assumption | (simp only [kC, kD, kE, kF]; try rfl)); (case hn => first | rfl | simp)) | (refine' xAf hR rfl rfl rfl inferInstance ?hm ?hv ?_; (case hm => first | with_reducible assumption | repeat (first | exact .head _ | with_reducible assumption | apply mC)); (case hv => first | rfl | with_reducible assumption)) | (refine' xAa hR rfl rfl rfl inferInstance rfl ?hs ?zone ?zvn ?hn ?_; (case hs => repeat (first | exact xAh.head | apply xAh.tail)); (case zone => first | rfl | with_reducible assumption); (case zvn => first | rfl | simp); (case hn => first | rfl | simp); clear hR; intro w hR) | (refine' xAc hR rfl rfl rfl inferInstance rfl rfl ?hs ?hn ?hl ?_; (case hs => repeat (first | exact xAh.head | apply xAh.tail)); (case hn => first | exact oD rfl | (show _ < 4; with_reducible assumption) | (simp; try omega)); (case hl => first | with_reducible assumption | (simp only [nl, kA, kB]; first | done | rfl) | rfl); clear hR; intro w hR) | (refine' xAy hR rfl rfl rfl inferInstance ?hm ?hn ?_; (case hm => first | with_reducible assumption | repeat (first | exact .head _ | with_reducible assumption | apply mC)); (case hn => first | rfl | simp)) | (refine' xBt hR rfl rfl rfl inferInstance ?hm ?hv ?_; (case hm => first | with_reducible assumption | repeat (first | exact .head _ | with_reducible assumption | apply mC)); (case hv => first | rfl | with_reducible assumption)) | (refine' xBb hR rfl rfl rfl inferInstance ?hm ?hv ?hn ?_; (case hm => first | with_reducible assumption | repeat (first | exact .head _ | with_reducible assumption | apply mC)); (case hv => first | with_reducible assumption | (simp only [kC, kD, kE, kF]; try rfl)); (case hn => first | rfl | simp)) | (go_at_call 26; refine (fi _).mono ?_; rintro e w ⟨rfl, hb⟩; replace hR := hR.call hb; clear hb) | (go_at_call 23; refine (al _).mono ?_; rintro e w ⟨rfl, hb⟩; replace hR := hR.call hb; clear hb) | (go_at_call 13; refine (m1 _).mono ?_; rintro e w ⟨rfl, hb⟩; replace hR := hR.call hb; clear hb))
    go_ret
    exact ⟨rfl, hR.below⟩
  have k2 : decide (0 ≤ z1) = false := decide_eq_false fun h => lo (k1.1 h)
  replace lo := Nat.lt_of_not_le lo
  clear k1
  obtain ⟨hs5, ⟨gp, gq, gsp, gsq, gg, ggh, g1, g1h⟩, ib, iy, lx, ld, d0⟩ := hf
  have hs : s.size ≤ 100000 := by omega
  have q1 : 1 < q := gsq.1
  have mo := pmoved_ok (s := s) (x := x) (d := d) (o := o) ib iy q1
  obtain ⟨A, hA⟩ : ∃ k, powN base x p = k := ⟨_, rfl⟩
  obtain ⟨D, hD⟩ : ∃ k, powN y x p = k := ⟨_, rfl⟩
  obtain ⟨e, he⟩ : ∃ k, (d + o) % q = k := ⟨_, rfl⟩
  have le : e < q := by rw [← he]; exact Nat.mod_lt _ (by omega)
  rw [hA, hD, he] at mo
  have p1 := fun w => prove_yes (g := g) (h := h) (s := s) hp hq hx hb hy hd hs (prove_may ib iy q1 lx d0 ld) w
  have lC : prC p q s x base y d < q := prC_lt q1
  have lZ : prS p q s x base y d < q := prS_lt q1
  generalize prC p q s x base y d = C at *
  generalize prS p q s x base y d = Z at *
  obtain ⟨Z3, hZ3⟩ : ∃ k, (Z + o) % q = k := ⟨_, rfl⟩
  rw [hZ3] at mo
  have lZ3 : Z3 < q := by rw [← hZ3]; exact Nat.mod_lt _ (by omega)
  have a1 := sadd_lit (p := p) (g := g) (h := h) (e := 0) (r := e) hd ho hq (by rw [if_pos ⟨q1, ld, lo⟩, he]) (if_pos ⟨q1, ld, lo⟩)
  have a2 := sadd_lit (p := p) (g := g) (h := h) (e := 0) (r := Z3) (by omega : Z < B) ho hq (by rw [if_pos ⟨q1, lZ, lo⟩, hZ3]) (if_pos ⟨q1, lZ, lo⟩)
  by_cases he0 : e = 0
  · have e0 : eqN e 0 = true := xCm he0
    clear hs5 gp gq gsp gsq gg ggh g1 g1h ib iy lx ld d0 hs q1 mo hA hD he le lC lZ hZ3 lZ3 he0 lo
    have hR := Rep.init w
    go_enter Try.func10, Try.ntmps10
    go_wp2_with (first | go_skip | (refine' xAg hR rfl rfl rfl ?_; clear hR; intro blk w hR) | (refine' xAb hR rfl rfl inferInstance ?_; clear hR; intro blk w hR) | (refine' xAd hR rfl rfl rfl inferInstance ?hm ?hn ?_; (case hm => first | with_reducible assumption | repeat (first | exact .head _ | with_reducible assumption | apply mC)); (case hn => first | rfl | simp)) | (refine' xAe hR rfl rfl rfl inferInstance ?hm ?hv ?hn ?_; (case hm => first | with_reducible assumption | repeat (first | exact .head _ | with_reducible assumption | apply mC)); (case hv => first | with_reducible assumption | (simp only [kC, kD, kE, kF]; try rfl)); (case hn => first | rfl | simp)) | (refine' xAf hR rfl rfl rfl inferInstance ?hm ?hv ?_; (case hm => first | with_reducible assumption | repeat (first | exact .head _ | with_reducible assumption | apply mC)); (case hv => first | rfl | with_reducible assumption)) | (refine' xAa hR rfl rfl rfl inferInstance rfl ?hs ?zone ?zvn ?hn ?_; (case hs => repeat (first | exact xAh.head | apply xAh.tail)); (case zone => first | rfl | with_reducible assumption); (case zvn => first | rfl | simp); (case hn => first | rfl | simp); clear hR; intro w hR) | (refine' xAc hR rfl rfl rfl inferInstance rfl rfl ?hs ?hn ?hl ?_; (case hs => repeat (first | exact xAh.head | apply xAh.tail)); (case hn => first | exact oD rfl | (show _ < 4; with_reducible assumption) | (simp; try omega)); (case hl => first | with_reducible assumption | (simp only [nl, kA, kB]; first | done | rfl) | rfl); clear hR; intro w hR) | (refine' xAy hR rfl rfl rfl inferInstance ?hm ?hn ?_; (case hm => first | with_reducible assumption | repeat (first | exact .head _ | with_reducible assumption | apply mC)); (case hn => first | rfl | simp)) | (refine' xBt hR rfl rfl rfl inferInstance ?hm ?hv ?_; (case hm => first | with_reducible assumption | repeat (first | exact .head _ | with_reducible assumption | apply mC)); (case hv => first | rfl | with_reducible assumption)) | (refine' xBb hR rfl rfl rfl inferInstance ?hm ?hv ?hn ?_; (case hm => first | with_reducible assumption | repeat (first | exact .head _ | with_reducible assumption | apply mC)); (case hv => first | with_reducible assumption | (simp only [kC, kD, kE, kF]; try rfl)); (case hn => first | rfl | simp)) | (go_at_call 26; refine (fi _).mono ?_; rintro e w ⟨rfl, hb⟩; replace hR := hR.call hb; clear hb) | (go_at_call 23; refine (al _).mono ?_; rintro e w ⟨rfl, hb⟩; replace hR := hR.call hb; clear hb) | (go_at_call 13; refine (m1 _).mono ?_; rintro e w ⟨rfl, hb⟩; replace hR := hR.call hb; clear hb) | (go_at_call 24; refine (p1 _).mono ?_; rintro e w ⟨rfl, hb⟩; replace hR := hR.call hb; clear hb) | (go_at_call 19; refine (a1 _).mono ?_; rintro e w ⟨rfl, hb⟩; replace hR := hR.call hb; clear hb))
    go_ret
    exact ⟨rfl, hR.below⟩
  have e0 : eqN e 0 = false := eqN_no (by omega) B_pos he0
  have p2 := fun w => prove_yes (g := g) (h := h) (s := s) hp hq hx hb hy (by omega : e < B) hs (prove_may ib iy q1 lx he0 le) w
  have lC2 : prC p q s x base y e < q := prC_lt q1
  generalize prC p q s x base y e = C2 at *
  generalize prS p q s x base y e = Z2 at *
  have x1 := pw14_lit (q := q) (g := g) (h := h) (r := A) hp hb hx (by rw [if_pos ib.1, hA])
  have x2 := pw14_lit (q := q) (g := g) (h := h) (r := D) hp hy hx (by rw [if_pos iy.1, hD])
  have lA : A < B := by have := (in_exp (by omega) ib x).1.2.2; rw [hA] at this; omega
  have lD : D < B := by have := (in_exp (by omega) iy x).1.2.2; rw [hD] at this; omega
  have tz0 : ((nl2 C Z).drop 0).take 4 = nl C := rfl
  have tz4 : ((nl2 C Z).drop 4).take 4 = nl Z := rfl
  have tx0 : ((nl2 C Z3).drop 0).take 4 = nl C := rfl
  have ty0 : ((nl2 C2 Z2).drop 0).take 4 = nl C2 := rfl
  have tw : (nl2 C Z).take 4 ++ nl Z3 ++ (nl2 C Z).drop (4 + 4) = nl2 C Z3 := rfl
  obtain ⟨res, hres⟩ : ∃ r, eqN C C2 = r := ⟨_, rfl⟩
  have c1 := fun w => pchk_lit (g := g) (h := h) (res := res) hp hq hb lA hy lD (by omega : C < B) (by omega : Z3 < B) hs (by
    rw [mo, ← hres]
    exact ⟨fun h => Classical.byContradiction fun h' => (by rw [eqN_no (by omega) (by omega) (fun h2 => h' h2.symm)] at h; cases h), fun h => xCm h.symm⟩) w
  clear hs5 gp gq gsp gsq gg ggh g1 g1h ib iy lx ld d0 hs q1 mo hA hD he le lC lZ hZ3 lZ3 he0 lo lC2 lA lD
  cases res
  all_goals
    have hR := Rep.init w
    go_enter Try.func10, Try.ntmps10
    go_wp2_with (first | go_skip | (refine' xAg hR rfl rfl rfl ?_; clear hR; intro blk w hR) | (refine' xAb hR rfl rfl inferInstance ?_; clear hR; intro blk w hR) | (refine' xAd hR rfl rfl rfl inferInstance ?hm ?hn ?_; (case hm => first | with_reducible assumption | repeat (first | exact .head _ | with_reducible assumption | apply mC)); (case hn => first | rfl | simp)) | (refine' xAe hR rfl rfl rfl inferInstance ?hm ?hv ?hn ?_; (case hm => first | with_reducible assumption | repeat (first | exact .head _ | with_reducible assumption | apply mC)); (case hv => first | with_reducible assumption | (simp only [kC, kD, kE, kF]; try rfl)); (case hn => first | rfl | simp)) | (refine' xAf hR rfl rfl rfl inferInstance ?hm ?hv ?_; (case hm => first | with_reducible assumption | repeat (first | exact .head _ | with_reducible assumption | apply mC)); (case hv => first | rfl | with_reducible assumption)) | (refine' xAa hR rfl rfl rfl inferInstance rfl ?hs ?zone ?zvn ?hn ?_; (case hs => repeat (first | exact xAh.head | apply xAh.tail)); (case zone => first | rfl | with_reducible assumption); (case zvn => first | rfl | simp); (case hn => first | rfl | simp); clear hR; intro w hR) | (refine' xAc hR rfl rfl rfl inferInstance rfl rfl ?hs ?hn ?hl ?_; (case hs => repeat (first | exact xAh.head | apply xAh.tail)); (case hn => first | exact oD rfl | (show _ < 4; with_reducible assumption) | (simp; try omega)); (case hl => first | with_reducible assumption | (simp only [nl, kA, kB]; first | done | rfl) | rfl); clear hR; intro w hR) | (refine' xAy hR rfl rfl rfl inferInstance ?hm ?hn ?_; (case hm => first | with_reducible assumption | repeat (first | exact .head _ | with_reducible assumption | apply mC)); (case hn => first | rfl | simp)) | (refine' xBt hR rfl rfl rfl inferInstance ?hm ?hv ?_; (case hm => first | with_reducible assumption | repeat (first | exact .head _ | with_reducible assumption | apply mC)); (case hv => first | rfl | with_reducible assumption)) | (refine' xBb hR rfl rfl rfl inferInstance ?hm ?hv ?hn ?_; (case hm => first | with_reducible assumption | repeat (first | exact .head _ | with_reducible assumption | apply mC)); (case hv => first | with_reducible assumption | (simp only [kC, kD, kE, kF]; try rfl)); (case hn => first | rfl | simp)) | (go_at_call 26; refine (fi _).mono ?_; rintro e w ⟨rfl, hb⟩; replace hR := hR.call hb; clear hb) | (go_at_call 23; refine (al _).mono ?_; rintro e w ⟨rfl, hb⟩; replace hR := hR.call hb; clear hb) | (go_at_call 13; refine (m1 _).mono ?_; rintro e w ⟨rfl, hb⟩; replace hR := hR.call hb; clear hb) | (go_at_call 24; refine (p1 _).mono ?_; rintro e w ⟨rfl, hb⟩; replace hR := hR.call hb; clear hb) | (go_at_call 24; refine (p2 _).mono ?_; rintro e w ⟨rfl, hb⟩; replace hR := hR.call hb; clear hb) | (go_at_call 19; refine (a1 _).mono ?_; rintro e w ⟨rfl, hb⟩; replace hR := hR.call hb; clear hb) | (go_at_call 19; refine (a2 _).mono ?_; rintro e w ⟨rfl, hb⟩; replace hR := hR.call hb; clear hb) | (refine' wpList_storeRow hR rfl rfl rfl inferInstance rfl rfl rfl ?hs ?hn ?hl ?_; (case hs => repeat (first | exact xAh.head | apply xAh.tail)); (case hn => exact Nat.le_refl 8); (case hl => with_reducible assumption); clear hR; intro w hR))
    refine xAk hR [0, 0, 0, 0, 0, 0, 0, 0, 0, 0, 0, 0, 0, 0, 0, 0, 0, 0, 0, 0, 0, 0, 0, 0, 0, 0, 0, 0, 0, 0, 0, 0, 0, 0, 0, 0, 0, 0, 2] [] xCu (by kernel_rfl) rfl rfl (fun K hK => ?_)
    clear hR
    repeat ((first | (refine xBo ?_) | (refine' xAx (by decide) rfl (.inl rfl) rfl ?ha ?_) | (refine' xAx (by decide) rfl (.inr rfl) rfl ?ha ?_) | (refine' xAw rfl rfl rfl inferInstance ?hm ?hn ?ha ?_; (case hm => first | with_reducible assumption | repeat (first | exact .head _ | with_reducible assumption | apply mC)); (case hn => first | rfl | simp)) | (refine' xAr rfl rfl rfl inferInstance ?hm ?hv ?hn ?ha ?_; (case hm => first | with_reducible assumption | repeat (first | exact .head _ | with_reducible assumption | apply mC)); (case hv => first | with_reducible assumption | (simp only [kC, kD, kE, kF]; try rfl)); (case hn => first | rfl | simp)) | (refine' xAn rfl rfl rfl inferInstance ?hm ?hv ?ha ?_; (case hm => first | with_reducible assumption | repeat (first | exact .head _ | with_reducible assumption | apply mC)); (case hv => first | rfl | with_reducible assumption)) | (refine' xAq rfl rfl rfl inferInstance ?hm ?hv ?hn ?ha ?_; (case hm => first | with_reducible assumption | repeat (first | exact .head _ | with_reducible assumption | apply mC)); (case hv => first | with_reducible assumption | (simp only [kC, kD, kE, kF]; try rfl)); (case hn => first | rfl | simp)) | (refine' xAm rfl rfl rfl inferInstance ?hm ?hv ?ha ?_; (case hm => first | with_reducible assumption | repeat (first | exact .head _ | with_reducible assumption | apply mC)); (case hv => first | rfl | with_reducible assumption)) | ((first | refine' xAj (by decide) rfl rfl rfl rfl (fun w => ?hq) ?ha ?_ | refine' xBd (by decide) rfl rfl rfl rfl (fun w => ?hq) ?ha ?_ | refine' xAt (by decide) rfl rfl rfl (fun w => ?hq) ?ha ?_ | refine' xAi (by decide) rfl rfl rfl (fun w => ?hq) ?ha ?_ | refine' xAu (by decide) rfl rfl rfl (fun w => ?hq) ?ha ?_ | refine' xBg (by decide) rfl rfl rfl rfl (fun w => ?hq) ?ha ?_ | refine' xBh (by decide) rfl rfl rfl rfl rfl rfl (fun w => ?hq) ?ha ?_ | refine' xBe (by decide) rfl rfl (fun w => ?hq) ?ha ?_ | refine' xAv (by decide) rfl rfl rfl (fun w => ?hq) ?ha ?_ | refine' xBf (by decide) rfl rfl rfl (fun w => ?hq) ?ha ?_); (case hq => go_simp; try rfl)) | (refine' xAl (by decide) rfl rfl rfl ?ha ?_) | (refine' xBn (by decide) rfl rfl rfl rfl ?ha ?_) | (refine' xBp (by decide) rfl ?ha ?_) | (refine' xBi rfl rfl rfl (xBm Try.func23 (by kernel_rfl) (by kernel_rfl) _) (fun w => al w) ?ha ?_) | (refine' xBi rfl rfl rfl (xBm Try.func25 (by kernel_rfl) (by kernel_rfl) _) (fun w => c1 w) ?ha ?_) | (refine' xBi rfl rfl rfl (xBm Try.func27 (by kernel_rfl) (by kernel_rfl) _) (fun w => x1 w) ?ha ?_) | (refine' xBi rfl rfl rfl (xBm Try.func27 (by kernel_rfl) (by kernel_rfl) _) (fun w => x2 w) ?ha ?_)); try (case ha => simp only [kP, kQ, kA, kB]; try rfl))
    refine xBx (hK _ _ ?_)
    clear hK K
    refine xBz (fun Q hQ => ?_)
    try simp only [List.nil_append, List.cons_append]
    repeat ((first | refine' xBa rfl (.inl rfl) rfl ?hk ?ha ?_ | refine' xBa rfl (.inr rfl) rfl ?hk ?ha ?_ | (refine' xAs rfl rfl rfl inferInstance rfl ?hs rfl rfl ?hn ?hk ?ha ?_; (case hs => repeat (first | exact xAh.head | apply xAh.tail)); (case hn => first | rfl | simp)) | (refine' xAo rfl rfl rfl inferInstance rfl rfl ?hs ?hn ?hl ?hk ?ha ?_; (case hs => repeat (first | exact xAh.head | apply xAh.tail)); (case hn => first | exact oD rfl | (show _ < 4; with_reducible assumption) | (simp; try omega)); (case hl => first | with_reducible assumption | (simp only [nl, kA, kB]; first | done | rfl) | rfl)) | (refine' xAp rfl rfl rfl inferInstance rfl rfl ?hvn ?hs ?hn ?hl ?hk ?ha ?_; (case hvn => first | rfl | simp); (case hs => repeat (first | exact xAh.head | apply xAh.tail)); (case hn => first | exact oD rfl | (show _ < 4; with_reducible assumption) | (simp; try omega)); (case hl => first | with_reducible assumption | (simp only [nl, kA, kB]; first | done | rfl) | rfl)) | (refine' xBq rfl (fun w => ?hq) ?hk ?ha ?_; (case hq => go_simp; try rfl))); (case hk => intro p hp; first | exact absurd hp List.not_mem_nil | (obtain rfl := List.mem_singleton.1 hp; repeat (first | exact List.Mem.head _ | with_reducible assumption | apply mC))); (case ha => simp only [kP, kQ, kA, kB]; try rfl))
    refine xBy (fun w hR => hQ _ _ ?_)
    clear hQ Q
    go_wp2_with (first | (refine' xAg hR rfl rfl rfl ?_; clear hR; intro blk w hR) | (refine' xAb hR rfl rfl inferInstance ?_; clear hR; intro blk w hR) | (refine' xAd hR rfl rfl rfl inferInstance ?hm ?hn ?_; (case hm => first | with_reducible assumption | repeat (first | exact .head _ | with_reducible assumption | apply mC)); (case hn => first | rfl | simp)) | (refine' xAe hR rfl rfl rfl inferInstance ?hm ?hv ?hn ?_; (case hm => first | with_reducible assumption | repeat (first | exact .head _ | with_reducible assumption | apply mC)); (case hv => first | with_reducible assumption | (simp only [kC, kD, kE, kF]; try rfl)); (case hn => first | rfl | simp)) | (refine' xAf hR rfl rfl rfl inferInstance ?hm ?hv ?_; (case hm => first | with_reducible assumption | repeat (first | exact .head _ | with_reducible assumption | apply mC)); (case hv => first | rfl | with_reducible assumption)) | (refine' xAa hR rfl rfl rfl inferInstance rfl ?hs ?zone ?zvn ?hn ?_; (case hs => repeat (first | exact xAh.head | apply xAh.tail)); (case zone => first | rfl | with_reducible assumption); (case zvn => first | rfl | simp); (case hn => first | rfl | simp); clear hR; intro w hR) | (refine' xAc hR rfl rfl rfl inferInstance rfl rfl ?hs ?hn ?hl ?_; (case hs => repeat (first | exact xAh.head | apply xAh.tail)); (case hn => first | exact oD rfl | (show _ < 4; with_reducible assumption) | (simp; try omega)); (case hl => first | with_reducible assumption | (simp only [nl, kA, kB]; first | done | rfl) | rfl); clear hR; intro w hR) | fail)
    go_ret
    exact ⟨rfl, hR.below⟩
end Go.Proofs.Ytklidiambinhkaa
