/- The contracts of balefireref13.Exponent, Key, Sign, Check. -/
import Derived.Test.YtgfoeongjhkdmaaGreatRRefChal
import Derived.Test.YtgfoeongjhkdmaaGreatRSigChk
import Derived.Test.YtgfoeongjhkdmaaGreatRRef08
import Derived.Test.YtgfoeongjhkdmaaGreatRRef09
set_option linter.unusedVariables false
set_option linter.unusedSimpArgs false
namespace Go.Proofs.YtgfoeongjhkdmaaGreat
open Go.RowKit
attribute [local irreducible] Calls Instr.build Instr.buildSlice
section
variable {p q g h a s d key c S : Nat} {H : Nat → Nat} {b : Bool}
set_option maxRecDepth 100000 in
set_option maxHeartbeats 2000000 in
theorem rexpo_lit (hq : q < B) (ha : a < B) (hb : b = true ↔ 1 < q ∧ a < q) (w : World) : Calls Tryz.prog 14 #[grp p q g h, num a] w fun e' w' => e' = .returned (.bool b) ∧ Below w.heap.size w w' := by
  have a1 := fun w => rsadd_any (p := p) (g := g) (h := h) ha ha hq w
  cases b
  · have hn : ¬ okM a a q := fun h => by have := hb.2 ⟨h.1, h.2.1⟩; cases this
    rw [if_neg hn, if_neg hn] at a1
    clear hn hb
    have hR := Rep.init w
    go_enter Tryz.func14, Tryz.ntmps14
    go_wp2_with (first | (refine' xAb hR rfl rfl rfl ?_; clear hR; intro blk w hR) | (refine' xAa hR rfl rfl inferInstance ?_; clear hR; intro blk w hR) | (refine' aFq hR rfl rfl rfl inferInstance ?_) | (refine' aGq hR rfl rfl rfl inferInstance ?_) | (refine' aHq hR rfl rfl rfl inferInstance ?_) | (refine' aDq hR rfl rfl rfl inferInstance rfl ?_; clear hR; intro w hR) | (refine' aEq hR rfl rfl rfl inferInstance rfl rfl ?_; clear hR; intro w hR) | (go_at_call 18; refine (a1 _).mono ?_; rintro e w ⟨rfl, hb⟩; replace hR := hR.call hb; clear hb))
    go_ret
    exact ⟨rfl, hR.below⟩
  · have hn : okM a a q := ⟨(hb.1 rfl).1, (hb.1 rfl).2, (hb.1 rfl).2⟩
    rw [if_pos hn, if_pos hn] at a1
    generalize (a + a) % q = x at *
    clear hn hb
    have hR := Rep.init w
    go_enter Tryz.func14, Tryz.ntmps14
    go_wp2_with (first | (refine' xAb hR rfl rfl rfl ?_; clear hR; intro blk w hR) | (refine' xAa hR rfl rfl inferInstance ?_; clear hR; intro blk w hR) | (refine' aFq hR rfl rfl rfl inferInstance ?_) | (refine' aGq hR rfl rfl rfl inferInstance ?_) | (refine' aHq hR rfl rfl rfl inferInstance ?_) | (refine' aDq hR rfl rfl rfl inferInstance rfl ?_; clear hR; intro w hR) | (refine' aEq hR rfl rfl rfl inferInstance rfl rfl ?_; clear hR; intro w hR) | (go_at_call 18; refine (a1 _).mono ?_; rintro e w ⟨rfl, hb⟩; replace hR := hR.call hb; clear hb))
    go_ret
    exact ⟨rfl, hR.below⟩
set_option maxRecDepth 100000 in
set_option maxHeartbeats 2000000 in
theorem rkey_lit (hp : p < B) (hq : q < B) (hk : key < B) (hb : b = true ↔ inG p q key ∧ key ≠ 1) (w : World) : Calls Tryz.prog 22 #[grp p q g h, num key] w fun e' w' => e' = .returned (.bool b) ∧ Below w.heap.size w w' := by
  classical
  by_cases ig : inG p q key
  · have i1 := rgin_lit (g := g) (h := h) (s := true) hp hq hk ⟨fun _ => ig, fun _ => rfl⟩
    by_cases k1 : key = 1
    · obtain rfl : b = false := by
        cases b
        · rfl
        · exact absurd k1 (hb.1 rfl).2
      have ek : eqN key 1 = true := eqN_yes k1
      clear ig hb k1
      have hR := Rep.init w
      go_enter Tryz.func22, Tryz.ntmps22
      go_wp2_with (first | go_skip | (refine' xAb hR rfl rfl rfl ?_; clear hR; intro blk w hR) | (refine' xAa hR rfl rfl inferInstance ?_; clear hR; intro blk w hR) | (refine' aFq hR rfl rfl rfl inferInstance ?_) | (refine' aGq hR rfl rfl rfl inferInstance ?_) | (refine' aHq hR rfl rfl rfl inferInstance ?_) | (refine' aDq hR rfl rfl rfl inferInstance rfl ?_; clear hR; intro w hR) | (refine' aEq hR rfl rfl rfl inferInstance rfl rfl ?_; clear hR; intro w hR) | (refine' xAy hR rfl rfl rfl inferInstance ?hm ?hn ?_; (case hm => first | with_reducible assumption | repeat (first | exact .head _ | with_reducible assumption | apply mC)); (case hn => first | rfl | simp)) | (refine' xAt hR rfl rfl rfl inferInstance ?hm ?hv ?_; (case hm => first | with_reducible assumption | repeat (first | exact .head _ | with_reducible assumption | apply mC)); (case hv => first | rfl | with_reducible assumption)) | (refine' xBh hR rfl rfl rfl inferInstance ?hm ?hv ?hn ?_; (case hm => first | with_reducible assumption | repeat (first | exact .head _ | with_reducible assumption | apply mC)); (case hv => first | with_reducible assumption | (simp only [kC, kD, kE, kF]; try rfl)); (case hn => first | rfl | simp)) | (go_at_call 43; refine (i1 _).mono ?_; rintro e w ⟨rfl, hb⟩; replace hR := hR.call hb; clear hb))
      go_ret
      exact ⟨rfl, hR.below⟩
    · obtain rfl : b = true := hb.2 ⟨ig, k1⟩
      have ek : eqN key 1 = false := xDl hk (lt_B (by decide)) k1
      clear ig hb k1
      have hR := Rep.init w
      go_enter Tryz.func22, Tryz.ntmps22
      go_wp2_with (first | go_skip | (refine' xAb hR rfl rfl rfl ?_; clear hR; intro blk w hR) | (refine' xAa hR rfl rfl inferInstance ?_; clear hR; intro blk w hR) | (refine' aFq hR rfl rfl rfl inferInstance ?_) | (refine' aGq hR rfl rfl rfl inferInstance ?_) | (refine' aHq hR rfl rfl rfl inferInstance ?_) | (refine' aDq hR rfl rfl rfl inferInstance rfl ?_; clear hR; intro w hR) | (refine' aEq hR rfl rfl rfl inferInstance rfl rfl ?_; clear hR; intro w hR) | (refine' xAy hR rfl rfl rfl inferInstance ?hm ?hn ?_; (case hm => first | with_reducible assumption | repeat (first | exact .head _ | with_reducible assumption | apply mC)); (case hn => first | rfl | simp)) | (refine' xAt hR rfl rfl rfl inferInstance ?hm ?hv ?_; (case hm => first | with_reducible assumption | repeat (first | exact .head _ | with_reducible assumption | apply mC)); (case hv => first | rfl | with_reducible assumption)) | (refine' xBh hR rfl rfl rfl inferInstance ?hm ?hv ?hn ?_; (case hm => first | with_reducible assumption | repeat (first | exact .head _ | with_reducible assumption | apply mC)); (case hv => first | with_reducible assumption | (simp only [kC, kD, kE, kF]; try rfl)); (case hn => first | rfl | simp)) | (go_at_call 43; refine (i1 _).mono ?_; rintro e w ⟨rfl, hb⟩; replace hR := hR.call hb; clear hb))
      go_ret
      exact ⟨rfl, hR.below⟩
  · obtain rfl : b = false := by
      cases b
      · rfl
      · exact absurd (hb.1 rfl).1 ig
    have i1 := rgin_lit (g := g) (h := h) (s := false) hp hq hk ⟨fun h => (by cases h), fun h => absurd h ig⟩
    clear ig hb
    have hR := Rep.init w
    go_enter Tryz.func22, Tryz.ntmps22
    go_wp2_with (first | go_skip | (refine' xAb hR rfl rfl rfl ?_; clear hR; intro blk w hR) | (refine' xAa hR rfl rfl inferInstance ?_; clear hR; intro blk w hR) | (refine' aFq hR rfl rfl rfl inferInstance ?_) | (refine' aGq hR rfl rfl rfl inferInstance ?_) | (refine' aHq hR rfl rfl rfl inferInstance ?_) | (refine' aDq hR rfl rfl rfl inferInstance rfl ?_; clear hR; intro w hR) | (refine' aEq hR rfl rfl rfl inferInstance rfl rfl ?_; clear hR; intro w hR) | (refine' xAy hR rfl rfl rfl inferInstance ?hm ?hn ?_; (case hm => first | with_reducible assumption | repeat (first | exact .head _ | with_reducible assumption | apply mC)); (case hn => first | rfl | simp)) | (refine' xAt hR rfl rfl rfl inferInstance ?hm ?hv ?_; (case hm => first | with_reducible assumption | repeat (first | exact .head _ | with_reducible assumption | apply mC)); (case hv => first | rfl | with_reducible assumption)) | (refine' xBh hR rfl rfl rfl inferInstance ?hm ?hv ?hn ?_; (case hm => first | with_reducible assumption | repeat (first | exact .head _ | with_reducible assumption | apply mC)); (case hv => first | with_reducible assumption | (simp only [kC, kD, kE, kF]; try rfl)); (case hn => first | rfl | simp)) | (go_at_call 43; refine (i1 _).mono ?_; rintro e w ⟨rfl, hb⟩; replace hR := hR.call hb; clear hb))
    go_ret
    exact ⟨rfl, hR.below⟩
set_option maxRecDepth 100000 in
set_option maxHeartbeats 8000000 in
theorem rsign_no (hp : p < B) (hq : q < B) (hg : g < B) (hs : s < B) (hd : d < B) (hno : ¬ signOk p q g s d) (w : World) : Calls Tryz.prog 5 #[grp p q g h, num s, .agg (u8s 32 H).toArray, num d] w fun e' w' =>
    e' = .returned (.tuple #[sigV 0 0, .int .i64 1]) ∧ Below w.heap.size w w' := by
  classical
  have tg := gl_g p q g h
  have bs := fun w => build_sig0 w
  obtain ⟨b0, hb0⟩ : ∃ b, decide (mayG p g) = b := ⟨_, rfl⟩
  obtain ⟨b1, hb1⟩ : ∃ b, decide (1 < q ∧ s < q) = b := ⟨_, rfl⟩
  obtain ⟨b2, hb2⟩ : ∃ b, decide (1 < q ∧ d < q) = b := ⟨_, rfl⟩
  have m1 := xDk (q := q) (g := g) (h := h) hp hg hb0
  have x1 := fun w => rexpo_lit (p := p) (g := g) (h := h) (b := b1) hq hs (by rw [← hb1]; exact decide_eq_true_iff) w
  have x2 := fun w => rexpo_lit (p := p) (g := g) (h := h) (b := b2) hq hd (by rw [← hb2]; exact decide_eq_true_iff) w
  have hc : b0 = false ∨ (b0 = true ∧ b1 = false) ∨ (b0 = true ∧ b1 = true ∧ b2 = false) ∨ (b0 = true ∧ b1 = true ∧ b2 = true ∧ eqN s 0 = true) ∨ (b0 = true ∧ b1 = true ∧ b2 = true ∧ eqN s 0 = false ∧ eqN d 0 = true) := by
    cases b0
    · exact .inl rfl
    · cases b1
      · exact .inr (.inl ⟨rfl, rfl⟩)
      · cases b2
        · exact .inr (.inr (.inl ⟨rfl, rfl, rfl⟩))
        · by_cases h2 : s = 0
          · exact .inr (.inr (.inr (.inl ⟨rfl, rfl, rfl, eqN_yes h2⟩)))
          · by_cases h3 : d = 0
            · exact .inr (.inr (.inr (.inr ⟨rfl, rfl, rfl, xDl hs B_pos h2, eqN_yes h3⟩)))
            · exact absurd ⟨oD hb0, h2, h3, (oD hb1).1, (oD hb1).2, (oD hb2).2⟩ hno
  clear hno hb0 hb1 hb2
  have hR := Rep.init w
  rcases hc with rfl | ⟨rfl, rfl⟩ | ⟨rfl, rfl, rfl⟩ | ⟨rfl, rfl, rfl, j1⟩ | ⟨rfl, rfl, rfl, j1, j2⟩
  all_goals
    go_enter Tryz.func5, Tryz.ntmps5
    go_wp2_with (first | go_skip | (refine' xAb hR rfl rfl rfl ?_; clear hR; intro blk w hR) | (refine' xAa hR rfl rfl inferInstance ?_; clear hR; intro blk w hR) | (refine' aFq hR rfl rfl rfl inferInstance ?_) | (refine' aGq hR rfl rfl rfl inferInstance ?_) | (refine' aHq hR rfl rfl rfl inferInstance ?_) | (refine' aDq hR rfl rfl rfl inferInstance rfl ?_; clear hR; intro w hR) | (refine' aEq hR rfl rfl rfl inferInstance rfl rfl ?_; clear hR; intro w hR) | (refine' xAy hR rfl rfl rfl inferInstance ?hm ?hn ?_; (case hm => first | with_reducible assumption | repeat (first | exact .head _ | with_reducible assumption | apply mC)); (case hn => first | rfl | simp)) | (refine' xAt hR rfl rfl rfl inferInstance ?hm ?hv ?_; (case hm => first | with_reducible assumption | repeat (first | exact .head _ | with_reducible assumption | apply mC)); (case hv => first | rfl | with_reducible assumption)) | (refine' xBh hR rfl rfl rfl inferInstance ?hm ?hv ?hn ?_; (case hm => first | with_reducible assumption | repeat (first | exact .head _ | with_reducible assumption | apply mC)); (case hv => first | with_reducible assumption | (simp only [kC, kD, kE, kF]; try rfl)); (case hn => first | rfl | simp)) | (go_at_call 13; refine (m1 _).mono ?_; rintro e w ⟨rfl, hb⟩; replace hR := hR.call hb; clear hb) | (go_at_call 14; refine (x1 _).mono ?_; rintro e w ⟨rfl, hb⟩; replace hR := hR.call hb; clear hb) | (go_at_call 14; refine (x2 _).mono ?_; rintro e w ⟨rfl, hb⟩; replace hR := hR.call hb; clear hb) | (refine' wpList_build rfl rfl ?hrun ?_; (case hrun => simp only [List.map_toArray, List.map_cons, List.map_nil]; exact bs _)))
    (refine' bodyPost_ret (xAz Tryz.results5 rfl (hR.loadAll (P := Tryz.prog) (ty := 30) ?hm ?hn)) rfl ⟨?_, hR.below⟩; (case hm => first | with_reducible assumption | repeat (first | exact .head _ | with_reducible assumption | apply mC)); (case hn => first | rfl | simp))
    first | rfl | (unfold sigV; rw [← nl2_zero]; rfl)
set_option maxRecDepth 100000 in
set_option maxHeartbeats 8000000 in
theorem rsign_yes (hp : p < B) (hq : q < B) (hg : g < B) (hs : s < B) (hd : d < B) (hH : ∀ i, H i < 256) (hok : signOk p q g s d) (w : World) : Calls Tryz.prog 5 #[grp p q g h, num s, .agg (u8s 32 H).toArray, num d] w fun e' w' =>
    e' = .returned (.tuple #[sigV (sigC p q g s d H) (sigS p q g s d H), .int .i64 0]) ∧ Below w.heap.size w w' := by
  classical
  obtain ⟨h1, h2, h3, h4⟩ := hok
  have tg := gl_g p q g h
  have m1 := xDk (q := q) (g := g) (h := h) hp hg (decide_eq_true h1)
  have e1 := fun w => rexpo_lit (p := p) (g := g) (h := h) (b := true) hq hs ⟨fun _ => ⟨h4.1, h4.2.1⟩, fun _ => rfl⟩ w
  have e2 := fun w => rexpo_lit (p := p) (g := g) (h := h) (b := true) hq hd ⟨fun _ => ⟨h4.1, h4.2.2⟩, fun _ => rfl⟩ w
  have j1 : eqN s 0 = false := xDl hs B_pos h2
  have j2 : eqN d 0 = false := xDl hd B_pos h3
  have x1 := rgexp_lit (q := q) (g := g) (h := h) (p := p) (e := 0) hp hg hs rfl (if_pos h1)
  have x2 := rgexp_lit (q := q) (g := g) (h := h) (p := p) (e := 0) hp hg hd rfl (if_pos h1)
  rw [if_pos h1] at x1 x2
  unfold sigS sigC
  obtain ⟨key, hkey⟩ : ∃ k, powN g s p = k := ⟨_, rfl⟩
  obtain ⟨r, hr⟩ : ∃ k, powN g d p = k := ⟨_, rfl⟩
  rw [hkey] at x1 ⊢
  rw [hr] at x2 ⊢
  obtain ⟨c, hc⟩ : ∃ c, chalN key r H q = c := ⟨_, rfl⟩
  have lc : c < q := by rw [← hc]; exact chalN_lt (by have := h4.1; omega) _ _ _
  rw [hc]
  obtain ⟨m, hm⟩ : ∃ m, mulN s c q = m := ⟨_, rfl⟩
  have lm : m < q := by rw [← hm, xCv]; exact Nat.mod_lt _ (by have := h4.1; omega)
  obtain ⟨S, hS⟩ : ∃ S, (d + m) % q = S := ⟨_, rfl⟩
  rw [hm, hS]
  have cm := fun w => rsmul_any (p := p) (g := g) (h := h) hs (by omega : c < B) hq w
  rw [if_pos (show okM s c q from ⟨h4.1, h4.2.1, lc⟩), if_pos (show okM s c q from ⟨h4.1, h4.2.1, lc⟩), hm] at cm
  have ca := fun w => rsadd_any (p := p) (g := g) (h := h) hd (by omega : m < B) hq w
  rw [if_pos (show okM d m q from ⟨h4.1, h4.2.2, lm⟩), if_pos (show okM d m q from ⟨h4.1, h4.2.2, lm⟩), hS] at ca
  have bs := fun w => build_sig c S w
  have cl := fun w => rchal_any (p := p) (g := g) (h := h) hq hc hH w
  clear h1 h2 h3 h4 hkey hr lc hm lm hS hc hH
  have hone := u8s_one 32 H
  have hR := Rep.init w
  go_enter Tryz.func5, Tryz.ntmps5
  go_wp2_with (first | go_skip | (refine' xAb hR rfl rfl rfl ?_; clear hR; intro blk w hR) | (refine' xAa hR rfl rfl inferInstance ?_; clear hR; intro blk w hR) | (refine' aFq hR rfl rfl rfl inferInstance ?_) | (refine' aGq hR rfl rfl rfl inferInstance ?_) | (refine' aHq hR rfl rfl rfl inferInstance ?_) | (refine' aDq hR rfl rfl rfl inferInstance rfl ?_; clear hR; intro w hR) | (refine' aEq hR rfl rfl rfl inferInstance rfl rfl ?_; clear hR; intro w hR) | (refine' xAy hR rfl rfl rfl inferInstance ?hm ?hn ?_; (case hm => first | with_reducible assumption | repeat (first | exact .head _ | with_reducible assumption | apply mC)); (case hn => first | rfl | simp)) | (refine' xAt hR rfl rfl rfl inferInstance ?hm ?hv ?_; (case hm => first | with_reducible assumption | repeat (first | exact .head _ | with_reducible assumption | apply mC)); (case hv => first | rfl | with_reducible assumption)) | (refine' xBh hR rfl rfl rfl inferInstance ?hm ?hv ?hn ?_; (case hm => first | with_reducible assumption | repeat (first | exact .head _ | with_reducible assumption | apply mC)); (case hv => first | with_reducible assumption | (simp only [kC, kD, kE, kF]; try rfl)); (case hn => first | rfl | simp)) | (go_at_call 13; refine (m1 _).mono ?_; rintro e w ⟨rfl, hb⟩; replace hR := hR.call hb; clear hb) | (go_at_call 14; refine (e1 _).mono ?_; rintro e w ⟨rfl, hb⟩; replace hR := hR.call hb; clear hb) | (go_at_call 14; refine (e2 _).mono ?_; rintro e w ⟨rfl, hb⟩; replace hR := hR.call hb; clear hb) | (go_at_call 15; refine (x1 _).mono ?_; rintro e w ⟨rfl, hb⟩; replace hR := hR.call hb; clear hb) | (go_at_call 15; refine (x2 _).mono ?_; rintro e w ⟨rfl, hb⟩; replace hR := hR.call hb; clear hb) | (go_at_call 16; refine (cl _).mono ?_; rintro e w ⟨rfl, hb⟩; replace hR := hR.call hb; clear hb) | (go_at_call 17; refine (cm _).mono ?_; rintro e w ⟨rfl, hb⟩; replace hR := hR.call hb; clear hb) | (go_at_call 18; refine (ca _).mono ?_; rintro e w ⟨rfl, hb⟩; replace hR := hR.call hb; clear hb) | (refine' wpList_build rfl rfl ?hrun ?_; (case hrun => simp only [List.map_toArray, List.map_cons, List.map_nil]; exact bs _)))
  (refine' bodyPost_ret (xAz Tryz.results5 rfl (hR.loadAll (P := Tryz.prog) (ty := 30) ?hm ?hn)) rfl ⟨?_, hR.below⟩; (case hm => first | with_reducible assumption | repeat (first | exact .head _ | with_reducible assumption | apply mC)); (case hn => first | rfl | simp))
  rfl
set_option maxRecDepth 100000 in
set_option maxHeartbeats 8000000 in
theorem rchk_no (hp : p < B) (hq : q < B) (hg : g < B) (hk : key < B) (hc : c < B) (hs : s < B) (hno : ¬ (mayG p g ∧ inG p q key ∧ key ≠ 1 ∧ okX q c s)) (w : World) : Calls Tryz.prog 7 #[grp p q g h, num key, .agg (u8s 32 H).toArray, sigV c s] w fun e' w' =>
    e' = .returned (.bool false) ∧ Below w.heap.size w w' := by
  classical
  have tg := gl_g p q g h
  have tc : ((nl2 c s).drop 0).take 4 = nl c := rfl
  have ts : ((nl2 c s).drop 4).take 4 = nl s := rfl
  obtain ⟨b0, hb0⟩ : ∃ b, decide (mayG p g) = b := ⟨_, rfl⟩
  obtain ⟨b1, hb1⟩ : ∃ b, decide (inG p q key ∧ key ≠ 1) = b := ⟨_, rfl⟩
  obtain ⟨b2, hb2⟩ : ∃ b, decide (1 < q ∧ c < q) = b := ⟨_, rfl⟩
  obtain ⟨b3, hb3⟩ : ∃ b, decide (1 < q ∧ s < q) = b := ⟨_, rfl⟩
  have m1 := xDk (q := q) (g := g) (h := h) hp hg hb0
  have k1 := fun w => rkey_lit (g := g) (h := h) (b := b1) hp hq hk (by rw [← hb1]; exact decide_eq_true_iff) w
  have x1 := fun w => rexpo_lit (p := p) (g := g) (h := h) (b := b2) hq hc (by rw [← hb2]; exact decide_eq_true_iff) w
  have x2 := fun w => rexpo_lit (p := p) (g := g) (h := h) (b := b3) hq hs (by rw [← hb3]; exact decide_eq_true_iff) w
  have hc' : b0 = false ∨ (b0 = true ∧ b1 = false) ∨ (b0 = true ∧ b1 = true ∧ b2 = false) ∨ (b0 = true ∧ b1 = true ∧ b2 = true ∧ b3 = false) := by
    cases b0
    · exact .inl rfl
    · cases b1
      · exact .inr (.inl ⟨rfl, rfl⟩)
      · cases b2
        · exact .inr (.inr (.inl ⟨rfl, rfl, rfl⟩))
        · cases b3
          · exact .inr (.inr (.inr ⟨rfl, rfl, rfl, rfl⟩))
          · exact absurd ⟨oD hb0, (oD hb1).1, (oD hb1).2, (oD hb2).1, (oD hb2).2, (oD hb3).2⟩ hno
  clear hno hb0 hb1 hb2 hb3
  have hone := u8s_one 32 H
  have hR := Rep.init w
  rcases hc' with rfl | ⟨rfl, rfl⟩ | ⟨rfl, rfl, rfl⟩ | ⟨rfl, rfl, rfl, rfl⟩
  all_goals
    go_enter Tryz.func7, Tryz.ntmps7
    go_wp2_with (first | go_skip | (refine' xAb hR rfl rfl rfl ?_; clear hR; intro blk w hR) | (refine' xAa hR rfl rfl inferInstance ?_; clear hR; intro blk w hR) | (refine' aFq hR rfl rfl rfl inferInstance ?_) | (refine' aGq hR rfl rfl rfl inferInstance ?_) | (refine' aHq hR rfl rfl rfl inferInstance ?_) | (refine' aDq hR rfl rfl rfl inferInstance rfl ?_; clear hR; intro w hR) | (refine' aEq hR rfl rfl rfl inferInstance rfl rfl ?_; clear hR; intro w hR) | (refine' xAy hR rfl rfl rfl inferInstance ?hm ?hn ?_; (case hm => first | with_reducible assumption | repeat (first | exact .head _ | with_reducible assumption | apply mC)); (case hn => first | rfl | simp)) | (refine' xAt hR rfl rfl rfl inferInstance ?hm ?hv ?_; (case hm => first | with_reducible assumption | repeat (first | exact .head _ | with_reducible assumption | apply mC)); (case hv => first | rfl | with_reducible assumption)) | (refine' xBh hR rfl rfl rfl inferInstance ?hm ?hv ?hn ?_; (case hm => first | with_reducible assumption | repeat (first | exact .head _ | with_reducible assumption | apply mC)); (case hv => first | with_reducible assumption | (simp only [kC, kD, kE, kF]; try rfl)); (case hn => first | rfl | simp)) | (go_at_call 13; refine (m1 _).mono ?_; rintro e w ⟨rfl, hb⟩; replace hR := hR.call hb; clear hb) | (go_at_call 22; refine (k1 _).mono ?_; rintro e w ⟨rfl, hb⟩; replace hR := hR.call hb; clear hb) | (go_at_call 14; refine (x1 _).mono ?_; rintro e w ⟨rfl, hb⟩; replace hR := hR.call hb; clear hb) | (go_at_call 14; refine (x2 _).mono ?_; rintro e w ⟨rfl, hb⟩; replace hR := hR.call hb; clear hb))
    go_ret
    exact ⟨rfl, hR.below⟩
set_option maxRecDepth 100000 in
set_option maxHeartbeats 16000000 in
theorem rchk_yes {res : Bool} (hp : p < B) (hq : q < B) (hg : g < B) (hk : key < B) (hc : c < B) (hs : s < B) (hH : ∀ i, H i < 256) (h0 : mayG p g) (h1 : inG p q key) (h2 : key ≠ 1) (h3 : okX q c s) (hres : res = true ↔ chalN key (chkR p q g key c s) H q = c) (w : World) : Calls Tryz.prog 7 #[grp p q g h, num key, .agg (u8s 32 H).toArray, sigV c s] w fun e' w' =>
    e' = .returned (.bool res) ∧ Below w.heap.size w w' := by
  classical
  have tg := gl_g p q g h
  have tq := gl_q p q g h
  have tc : ((nl2 c s).drop 0).take 4 = nl c := rfl
  have ts : ((nl2 c s).drop 4).take 4 = nl s := rfl
  have m1 := xDk (q := q) (g := g) (h := h) hp hg (decide_eq_true h0)
  have k1 := fun w => rkey_lit (g := g) (h := h) (b := true) hp hq hk ⟨fun _ => ⟨h1, h2⟩, fun _ => rfl⟩ w
  have e1 := fun w => rexpo_lit (p := p) (g := g) (h := h) (b := true) hq hc ⟨fun _ => ⟨h3.1, h3.2.1⟩, fun _ => rfl⟩ w
  have e2 := fun w => rexpo_lit (p := p) (g := g) (h := h) (b := true) hq hs ⟨fun _ => ⟨h3.1, h3.2.2⟩, fun _ => rfl⟩ w
  have p1 : 1 < p := h0.1
  obtain ⟨x, hx⟩ : ∃ x, powN g s p = x := ⟨_, rfl⟩
  have lx : x < p := by rw [← hx]; exact pow_lt' p1 _ _
  have x1 := rgexp_lit (q := q) (g := g) (h := h) (p := p) (r := x) (e := 0) hp hg hs (by rw [if_pos h0, hx]) (if_pos h0)
  unfold chkR at hres
  rw [hx] at hres
  obtain ⟨y, hy⟩ : ∃ y, powN key (subN 0 c q) p = y := ⟨_, rfl⟩
  have ly : y < p := by rw [← hy]; exact pow_lt' p1 _ _
  rw [hy] at hres
  obtain ⟨z, hz⟩ : ∃ z, mulN x y p = z := ⟨_, rfl⟩
  rw [hz] at hres
  obtain ⟨me, hme⟩ : ∃ e : Int, (if mayG p x ∧ mayG p y then (0 : Int) else 1) = e := ⟨_, rfl⟩
  have x3 := rgmul_lit (q := q) (g := g) (h := h) (p := p) (r := z) (e := me) hp (by omega : x < B) (by omega : y < B) (by
    by_cases hm : mayG p x ∧ mayG p y
    · rw [if_pos hm, hz]
    · rw [if_neg hm, ← hz, xCv]
      by_cases x0 : x = 0
      · rw [x0, Nat.zero_mul, Nat.zero_mod]
      · by_cases y0 : y = 0
        · rw [y0, Nat.mul_zero, Nat.zero_mod]
        · exact absurd ⟨⟨p1, x0, lx⟩, ⟨p1, y0, ly⟩⟩ hm) hme
  obtain ⟨C, hC⟩ : ∃ C, chalN key z H q = C := ⟨_, rfl⟩
  have lC : C < q := by rw [← hC]; exact chalN_lt (by have := h3.1; omega) _ _ _
  rw [hC] at hres
  have cl := fun w => rchal_any (p := p) (g := g) (h := h) hq hC hH w
  have es : eqN C c = res := by
    by_cases he : C = c
    · rw [eqN_yes he]; exact (hres.2 he).symm
    · rw [xDl (by omega) hc he]
      cases res
      · rfl
      · exact absurd (hres.1 rfl) he
  have hone := u8s_one 32 H
  by_cases c0 : c = 0
  · have j0 : eqN c 0 = true := eqN_yes c0
    have e0 : powN key q p = y := by
      rw [← hy, c0, subN_def, Nat.zero_add, Nat.sub_zero, Nat.mod_self, powN_def key 0, Nat.pow_zero, Nat.mod_eq_of_lt p1]
      exact h1.2
    have x2 := rgexp_lit (q := q) (g := g) (h := h) (p := p) (r := y) (e := 0) hp hk hq (by rw [if_pos h1.1, e0]) (if_pos h1.1)
    clear h0 h1 h2 h3 hres p1 hx lx hy ly hme hz hC lC hH c0 e0
    have hR := Rep.init w
    go_enter Tryz.func7, Tryz.ntmps7
    go_wp2_with (first | go_skip | (refine' xAb hR rfl rfl rfl ?_; clear hR; intro blk w hR) | (refine' xAa hR rfl rfl inferInstance ?_; clear hR; intro blk w hR) | (refine' aFq hR rfl rfl rfl inferInstance ?_) | (refine' aGq hR rfl rfl rfl inferInstance ?_) | (refine' aHq hR rfl rfl rfl inferInstance ?_) | (refine' aDq hR rfl rfl rfl inferInstance rfl ?_; clear hR; intro w hR) | (refine' aEq hR rfl rfl rfl inferInstance rfl rfl ?_; clear hR; intro w hR) | (refine' xAy hR rfl rfl rfl inferInstance ?hm ?hn ?_; (case hm => first | with_reducible assumption | repeat (first | exact .head _ | with_reducible assumption | apply mC)); (case hn => first | rfl | simp)) | (refine' xAt hR rfl rfl rfl inferInstance ?hm ?hv ?_; (case hm => first | with_reducible assumption | repeat (first | exact .head _ | with_reducible assumption | apply mC)); (case hv => first | rfl | with_reducible assumption)) | (refine' xBh hR rfl rfl rfl inferInstance ?hm ?hv ?hn ?_; (case hm => first | with_reducible assumption | repeat (first | exact .head _ | with_reducible assumption | apply mC)); (case hv => first | with_reducible assumption | (simp only [kC, kD, kE, kF]; try rfl)); (case hn => first | rfl | simp)) | (go_at_call 13; refine (m1 _).mono ?_; rintro e w ⟨rfl, hb⟩; replace hR := hR.call hb; clear hb) | (go_at_call 22; refine (k1 _).mono ?_; rintro e w ⟨rfl, hb⟩; replace hR := hR.call hb; clear hb) | (go_at_call 14; refine (e1 _).mono ?_; rintro e w ⟨rfl, hb⟩; replace hR := hR.call hb; clear hb) | (go_at_call 14; refine (e2 _).mono ?_; rintro e w ⟨rfl, hb⟩; replace hR := hR.call hb; clear hb) | (go_at_call 15; refine (x1 _).mono ?_; rintro e w ⟨rfl, hb⟩; replace hR := hR.call hb; clear hb) | (go_at_call 15; refine (x2 _).mono ?_; rintro e w ⟨rfl, hb⟩; replace hR := hR.call hb; clear hb) | (go_at_call 24; refine (x3 _).mono ?_; rintro e w ⟨rfl, hb⟩; replace hR := hR.call hb; clear hb))
    refine xAg hR [0, 0, 0, 0, 0, 0, 0, 0, 2] [] xCt (by kernel_rfl) rfl rfl (fun K hK => ?_)
    clear hR
    repeat ((first | (refine xBj ?_) | (refine' xAs (by decide) rfl (.inl rfl) rfl ?ha ?_) | (refine' xAs (by decide) rfl (.inr rfl) rfl ?ha ?_) | (refine' xAr rfl rfl rfl inferInstance ?hm ?hn ?ha ?_; (case hm => first | with_reducible assumption | repeat (first | exact .head _ | with_reducible assumption | apply mC)); (case hn => first | rfl | simp)) | (refine' xAm rfl rfl rfl inferInstance ?hm ?hv ?hn ?ha ?_; (case hm => first | with_reducible assumption | repeat (first | exact .head _ | with_reducible assumption | apply mC)); (case hv => first | with_reducible assumption | (simp only [kC, kD, kE, kF]; try rfl)); (case hn => first | rfl | simp)) | (refine' xAi rfl rfl rfl inferInstance ?hm ?hv ?ha ?_; (case hm => first | with_reducible assumption | repeat (first | exact .head _ | with_reducible assumption | apply mC)); (case hv => first | rfl | with_reducible assumption)) | (refine' xAn rfl rfl rfl inferInstance ?hm ?hv ?hn ?ha ?_; (case hm => first | with_reducible assumption | repeat (first | exact .head _ | with_reducible assumption | apply mC)); (case hv => first | with_reducible assumption | (simp only [kC, kD, kE, kF]; try rfl)); (case hn => first | rfl | simp)) | (refine' xAj rfl rfl rfl inferInstance ?hm ?hv ?ha ?_; (case hm => first | with_reducible assumption | repeat (first | exact .head _ | with_reducible assumption | apply mC)); (case hv => first | rfl | with_reducible assumption)) | ((first | refine' xAd (by decide) rfl rfl rfl rfl (fun w => ?hq) ?ha ?_ | refine' xBf (by decide) rfl rfl rfl rfl (fun w => ?hq) ?ha ?_ | refine' xAp (by decide) rfl rfl rfl (fun w => ?hq) ?ha ?_ | refine' xAe (by decide) rfl rfl rfl (fun w => ?hq) ?ha ?_ | refine' xAo (by decide) rfl rfl rfl (fun w => ?hq) ?ha ?_ | refine' xBd (by decide) rfl rfl rfl rfl (fun w => ?hq) ?ha ?_ | refine' xBc (by decide) rfl rfl rfl rfl rfl rfl (fun w => ?hq) ?ha ?_ | refine' xBb (by decide) rfl rfl (fun w => ?hq) ?ha ?_ | refine' xAq (by decide) rfl rfl rfl (fun w => ?hq) ?ha ?_ | refine' xBe (by decide) rfl rfl rfl (fun w => ?hq) ?ha ?_); (case hq => go_simp; try rfl)) | (refine' xAh (by decide) rfl rfl rfl ?ha ?_) | (refine' xBl (by decide) rfl rfl rfl rfl ?ha ?_) | (refine' xBk (by decide) rfl ?ha ?_) | (refine' xBg rfl rfl rfl (xBi Tryz.func16 (by kernel_rfl) (by kernel_rfl) _) (fun w => cl w) ?ha ?_)); try (case ha => simp only [kP, kQ, kA, kB]; try rfl))
    refine xBs (hK _ _ ?_)
    clear hK K
    refine xBx (fun Q hQ => ?_)
    try simp only [List.nil_append, List.cons_append]
    repeat ((first | refine' xBa rfl (.inl rfl) rfl ?hk ?ha ?_ | refine' xBa rfl (.inr rfl) rfl ?hk ?ha ?_ | (refine' xAv rfl rfl rfl inferInstance rfl ?hs rfl rfl ?hn ?hk ?ha ?_; (case hs => repeat (first | exact xAx.head | apply xAx.tail)); (case hn => first | rfl | simp)) | (refine' xAl rfl rfl rfl inferInstance rfl rfl ?hs ?hn ?hl ?hk ?ha ?_; (case hs => repeat (first | exact xAx.head | apply xAx.tail)); (case hn => first | exact oD rfl | (show _ < 4; with_reducible assumption) | (simp; try omega)); (case hl => first | with_reducible assumption | (simp only [nl, kA, kB]; first | done | rfl) | rfl)) | (refine' xAw rfl rfl rfl inferInstance rfl rfl ?hvn ?hs ?hn ?hl ?hk ?ha ?_; (case hvn => first | rfl | simp); (case hs => repeat (first | exact xAx.head | apply xAx.tail)); (case hn => first | exact oD rfl | (show _ < 4; with_reducible assumption) | (simp; try omega)); (case hl => first | with_reducible assumption | (simp only [nl, kA, kB]; first | done | rfl) | rfl)) | (refine' xBm rfl (fun w => ?hq) ?hk ?ha ?_; (case hq => go_simp; try rfl))); (case hk => intro p hp; first | exact absurd hp List.not_mem_nil | (obtain rfl := List.mem_singleton.1 hp; repeat (first | exact List.Mem.head _ | with_reducible assumption | apply mC))); (case ha => simp only [kP, kQ, kA, kB]; try rfl))
    refine xBw (fun w hR => hQ _ _ ?_)
    clear hQ Q
    go_wp2_with (first | (refine' xAb hR rfl rfl rfl ?_; clear hR; intro blk w hR) | (refine' xAa hR rfl rfl inferInstance ?_; clear hR; intro blk w hR) | (refine' aFq hR rfl rfl rfl inferInstance ?_) | (refine' aGq hR rfl rfl rfl inferInstance ?_) | (refine' aHq hR rfl rfl rfl inferInstance ?_) | (refine' aDq hR rfl rfl rfl inferInstance rfl ?_; clear hR; intro w hR) | (refine' aEq hR rfl rfl rfl inferInstance rfl rfl ?_; clear hR; intro w hR) | fail)
    go_ret
    exact ⟨rfl, hR.below⟩
  · have j0 : eqN c 0 = false := xDl hc B_pos c0
    obtain ⟨n0, h00⟩ : ∃ n, n = 0 := ⟨_, rfl⟩
    have L0 : n0 < B := lt_B (by omega)
    obtain ⟨bk', hbk⟩ : ∃ x, subN 0 c q = x := ⟨_, rfl⟩
    have lb : bk' < q := by rw [← hbk, subN_def]; exact Nat.mod_lt _ (by have := h3.1; omega)
    have sb := fun w => rssub_any (p := p) (g := g) (h := h) L0 hc hq w
    have ok0 : okM n0 c q := ⟨h3.1, by have := h3.1; omega, h3.2.1⟩
    rw [if_pos ok0, if_pos ok0, show num n0 = Value.agg #[.int .u64 0, .int .u64 0, .int .u64 0, .int .u64 0] by rw [h00]; exact xCs.symm, show subN n0 c q = bk' by rw [h00]; exact hbk] at sb
    rw [hbk] at hy
    have x2 := rgexp_lit (q := q) (g := g) (h := h) (p := p) (r := y) (e := 0) hp hk (by omega : bk' < B) (by rw [if_pos h1.1, hy]) (if_pos h1.1)
    clear h0 h1 h2 h3 hres p1 hx lx hy ly hme hz hC lC hH c0 hbk lb ok0 h00 L0
    have hR := Rep.init w
    go_enter Tryz.func7, Tryz.ntmps7
    go_wp2_with (first | go_skip | (refine' xAb hR rfl rfl rfl ?_; clear hR; intro blk w hR) | (refine' xAa hR rfl rfl inferInstance ?_; clear hR; intro blk w hR) | (refine' aFq hR rfl rfl rfl inferInstance ?_) | (refine' aGq hR rfl rfl rfl inferInstance ?_) | (refine' aHq hR rfl rfl rfl inferInstance ?_) | (refine' aDq hR rfl rfl rfl inferInstance rfl ?_; clear hR; intro w hR) | (refine' aEq hR rfl rfl rfl inferInstance rfl rfl ?_; clear hR; intro w hR) | (refine' xAy hR rfl rfl rfl inferInstance ?hm ?hn ?_; (case hm => first | with_reducible assumption | repeat (first | exact .head _ | with_reducible assumption | apply mC)); (case hn => first | rfl | simp)) | (refine' xAt hR rfl rfl rfl inferInstance ?hm ?hv ?_; (case hm => first | with_reducible assumption | repeat (first | exact .head _ | with_reducible assumption | apply mC)); (case hv => first | rfl | with_reducible assumption)) | (refine' xBh hR rfl rfl rfl inferInstance ?hm ?hv ?hn ?_; (case hm => first | with_reducible assumption | repeat (first | exact .head _ | with_reducible assumption | apply mC)); (case hv => first | with_reducible assumption | (simp only [kC, kD, kE, kF]; try rfl)); (case hn => first | rfl | simp)) | (go_at_call 13; refine (m1 _).mono ?_; rintro e w ⟨rfl, hb⟩; replace hR := hR.call hb; clear hb) | (go_at_call 22; refine (k1 _).mono ?_; rintro e w ⟨rfl, hb⟩; replace hR := hR.call hb; clear hb) | (go_at_call 14; refine (e1 _).mono ?_; rintro e w ⟨rfl, hb⟩; replace hR := hR.call hb; clear hb) | (go_at_call 14; refine (e2 _).mono ?_; rintro e w ⟨rfl, hb⟩; replace hR := hR.call hb; clear hb) | (go_at_call 23; refine (sb _).mono ?_; rintro e w ⟨rfl, hb⟩; replace hR := hR.call hb; clear hb) | (go_at_call 15; refine (x1 _).mono ?_; rintro e w ⟨rfl, hb⟩; replace hR := hR.call hb; clear hb) | (go_at_call 15; refine (x2 _).mono ?_; rintro e w ⟨rfl, hb⟩; replace hR := hR.call hb; clear hb) | (go_at_call 24; refine (x3 _).mono ?_; rintro e w ⟨rfl, hb⟩; replace hR := hR.call hb; clear hb))
    refine xAg hR [0, 0, 0, 0, 0, 0, 0, 0, 2] [] xCt (by kernel_rfl) rfl rfl (fun K hK => ?_)
    clear hR
    repeat ((first | (refine xBj ?_) | (refine' xAs (by decide) rfl (.inl rfl) rfl ?ha ?_) | (refine' xAs (by decide) rfl (.inr rfl) rfl ?ha ?_) | (refine' xAr rfl rfl rfl inferInstance ?hm ?hn ?ha ?_; (case hm => first | with_reducible assumption | repeat (first | exact .head _ | with_reducible assumption | apply mC)); (case hn => first | rfl | simp)) | (refine' xAm rfl rfl rfl inferInstance ?hm ?hv ?hn ?ha ?_; (case hm => first | with_reducible assumption | repeat (first | exact .head _ | with_reducible assumption | apply mC)); (case hv => first | with_reducible assumption | (simp only [kC, kD, kE, kF]; try rfl)); (case hn => first | rfl | simp)) | (refine' xAi rfl rfl rfl inferInstance ?hm ?hv ?ha ?_; (case hm => first | with_reducible assumption | repeat (first | exact .head _ | with_reducible assumption | apply mC)); (case hv => first | rfl | with_reducible assumption)) | (refine' xAn rfl rfl rfl inferInstance ?hm ?hv ?hn ?ha ?_; (case hm => first | with_reducible assumption | repeat (first | exact .head _ | with_reducible assumption | apply mC)); (case hv => first | with_reducible assumption | (simp only [kC, kD, kE, kF]; try rfl)); (case hn => first | rfl | simp)) | (refine' xAj rfl rfl rfl inferInstance ?hm ?hv ?ha ?_; (case hm => first | with_reducible assumption | repeat (first | exact .head _ | with_reducible assumption | apply mC)); (case hv => first | rfl | with_reducible assumption)) | ((first | refine' xAd (by decide) rfl rfl rfl rfl (fun w => ?hq) ?ha ?_ | refine' xBf (by decide) rfl rfl rfl rfl (fun w => ?hq) ?ha ?_ | refine' xAp (by decide) rfl rfl rfl (fun w => ?hq) ?ha ?_ | refine' xAe (by decide) rfl rfl rfl (fun w => ?hq) ?ha ?_ | refine' xAo (by decide) rfl rfl rfl (fun w => ?hq) ?ha ?_ | refine' xBd (by decide) rfl rfl rfl rfl (fun w => ?hq) ?ha ?_ | refine' xBc (by decide) rfl rfl rfl rfl rfl rfl (fun w => ?hq) ?ha ?_ | refine' xBb (by decide) rfl rfl (fun w => ?hq) ?ha ?_ | refine' xAq (by decide) rfl rfl rfl (fun w => ?hq) ?ha ?_ | refine' xBe (by decide) rfl rfl rfl (fun w => ?hq) ?ha ?_); (case hq => go_simp; try rfl)) | (refine' xAh (by decide) rfl rfl rfl ?ha ?_) | (refine' xBl (by decide) rfl rfl rfl rfl ?ha ?_) | (refine' xBk (by decide) rfl ?ha ?_) | (refine' xBg rfl rfl rfl (xBi Tryz.func16 (by kernel_rfl) (by kernel_rfl) _) (fun w => cl w) ?ha ?_)); try (case ha => simp only [kP, kQ, kA, kB]; try rfl))
    refine xBs (hK _ _ ?_)
    clear hK K
    refine xBx (fun Q hQ => ?_)
    try simp only [List.nil_append, List.cons_append]
    repeat ((first | refine' xBa rfl (.inl rfl) rfl ?hk ?ha ?_ | refine' xBa rfl (.inr rfl) rfl ?hk ?ha ?_ | (refine' xAv rfl rfl rfl inferInstance rfl ?hs rfl rfl ?hn ?hk ?ha ?_; (case hs => repeat (first | exact xAx.head | apply xAx.tail)); (case hn => first | rfl | simp)) | (refine' xAl rfl rfl rfl inferInstance rfl rfl ?hs ?hn ?hl ?hk ?ha ?_; (case hs => repeat (first | exact xAx.head | apply xAx.tail)); (case hn => first | exact oD rfl | (show _ < 4; with_reducible assumption) | (simp; try omega)); (case hl => first | with_reducible assumption | (simp only [nl, kA, kB]; first | done | rfl) | rfl)) | (refine' xAw rfl rfl rfl inferInstance rfl rfl ?hvn ?hs ?hn ?hl ?hk ?ha ?_; (case hvn => first | rfl | simp); (case hs => repeat (first | exact xAx.head | apply xAx.tail)); (case hn => first | exact oD rfl | (show _ < 4; with_reducible assumption) | (simp; try omega)); (case hl => first | with_reducible assumption | (simp only [nl, kA, kB]; first | done | rfl) | rfl)) | (refine' xBm rfl (fun w => ?hq) ?hk ?ha ?_; (case hq => go_simp; try rfl))); (case hk => intro p hp; first | exact absurd hp List.not_mem_nil | (obtain rfl := List.mem_singleton.1 hp; repeat (first | exact List.Mem.head _ | with_reducible assumption | apply mC))); (case ha => simp only [kP, kQ, kA, kB]; try rfl))
    refine xBw (fun w hR => hQ _ _ ?_)
    clear hQ Q
    go_wp2_with (first | (refine' xAb hR rfl rfl rfl ?_; clear hR; intro blk w hR) | (refine' xAa hR rfl rfl inferInstance ?_; clear hR; intro blk w hR) | (refine' aFq hR rfl rfl rfl inferInstance ?_) | (refine' aGq hR rfl rfl rfl inferInstance ?_) | (refine' aHq hR rfl rfl rfl inferInstance ?_) | (refine' aDq hR rfl rfl rfl inferInstance rfl ?_; clear hR; intro w hR) | (refine' aEq hR rfl rfl rfl inferInstance rfl rfl ?_; clear hR; intro w hR) | fail)
    go_ret
    exact ⟨rfl, hR.below⟩
theorem rchk_lit {res : Bool} (hp : p < B) (hq : q < B) (hg : g < B) (hk : key < B) (hc : c < B) (hs : s < B) (hH : ∀ i, H i < 256) (hres : res = true ↔ chkOk p q g key H c s) (w : World) : Calls Tryz.prog 7 #[grp p q g h, num key, .agg (u8s 32 H).toArray, sigV c s] w fun e' w' =>
    e' = .returned (.bool res) ∧ Below w.heap.size w w' := by
  classical
  by_cases h' : mayG p g ∧ inG p q key ∧ key ≠ 1 ∧ okX q c s
  · obtain ⟨h0, h1, h2, h3⟩ := h'
    exact rchk_yes hp hq hg hk hc hs hH h0 h1 h2 h3 ⟨fun h => (hres.1 h).2.2.2.2, fun h => hres.2 ⟨h1, h2, h3, h0, h⟩⟩ w
  · obtain rfl : res = false := by
      cases res
      · rfl
      · exact absurd ⟨(hres.1 rfl).2.2.2.1, (hres.1 rfl).1, (hres.1 rfl).2.1, (hres.1 rfl).2.2.1⟩ h'
    exact rchk_no hp hq hg hk hc hs h' w
end
end Go.Proofs.YtgfoeongjhkdmaaGreat
