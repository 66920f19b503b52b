/- The contracts of balefirelaw13.fine, of two and of three numbers. Printed by mkfine.py. -/
import Derived.Test.YtklidiambinhkaaZGC
import Derived.Test.YtklidiambinhkaaZGA
set_option linter.unusedVariables false
set_option linter.unusedSimpArgs false
namespace Go.Proofs.Ytklidiambinhkaa
open Go.RowKit
attribute [local irreducible] Calls
noncomputable def nl3x (a b c : Nat) : List Value := nl a ++ (nl b ++ nl c)
theorem build_nums3 (a b c : Nat) (w : World) : (Instr.buildSlice 62 3 #[(0, num a), (1, num b), (2, num c)]).run Try.prog w = .ok (.slice (some ⟨w.heap.size, 0, none⟩) 3 3) (w.alloc (.cells (nl3x a b c).toArray 24)) := by
  unfold num nl3x nl
  go_simp
def fineX (p q g h : Nat) (l : List Nat) : Prop := (∀ x ∈ l, x < q ∧ x ≠ 0) ∧ goodG p q g h
theorem one_fine {x q : Nat} (hx : x < B) : ((decide (0 ≤ cmpN x q) = false ∧ eqN x 0 = false) ↔ (x < q ∧ x ≠ 0)) := by
  constructor
  · rintro ⟨h1, h2⟩
    refine ⟨Nat.lt_of_not_le fun h => of_decide_eq_false h1 ((cmpN_ge x q).2 h), fun h => by rw [eqN_yes h] at h2; cases h2⟩
  · rintro ⟨h1, h2⟩
    exact ⟨decide_eq_false fun h => absurd ((cmpN_ge x q).1 h) (by omega), xCy hx B_pos h2⟩
section
variable {B0 : Nat} {w0 w : World} {L : List (Nat × Obj)}
set_option maxRecDepth 100000 in
set_option maxHeartbeats 16000000 in
theorem fine2_lit {p q g h x0 x1 b : Nat} {s : Bool} (hp : p < B) (hq : q < B) (hg : g < B) (hh : h < B) (h0 : x0 < B) (h1 : x1 < B) (hs : s = true ↔ fineX p q g h [x0, x1]) (hm : (b, Obj.cells (nl2 x0 x1).toArray 24) ∈ L) (hR : Rep B0 w0 L w) :
    Calls Try.prog 17 #[grp p q g h, .slice (some ⟨b, 0, none⟩) 2 2] w fun e w' => e = .returned (.bool s) ∧ Rep B0 w0 L w' := by
  classical
  have tq := gl_q p q g h
  obtain ⟨gd, hgd⟩ : ∃ b : Bool, decide (goodG p q g h) = b := ⟨_, rfl⟩
  have cg := good_lit (s := gd) hp hq hg hh (by rw [← hgd]; exact decide_eq_true_iff)
  have t0 : ((nl2 x0 x1).drop 0).take 4 = nl x0 := rfl
  have k0 := one_fine (q := q) h0
  have c0 := xCi h0 hq rfl
  generalize cmpN x0 q = z0 at *
  obtain ⟨u0, hu0⟩ : ∃ b : Bool, decide (0 ≤ z0) = b := ⟨_, rfl⟩
  obtain ⟨v0, hv0⟩ : ∃ b : Bool, eqN x0 0 = b := ⟨_, rfl⟩
  rw [hu0, hv0] at k0
  have t1 : ((nl2 x0 x1).drop 4).take 4 = nl x1 := rfl
  have k1 := one_fine (q := q) h1
  have c1 := xCi h1 hq rfl
  generalize cmpN x1 q = z1 at *
  obtain ⟨u1, hu1⟩ : ∃ b : Bool, decide (0 ≤ z1) = b := ⟨_, rfl⟩
  obtain ⟨v1, hv1⟩ : ∃ b : Bool, eqN x1 0 = b := ⟨_, rfl⟩
  rw [hu1, hv1] at k1
  have hc : (u0 = true ∧ s = false) ∨ (u0 = false ∧ v0 = true ∧ s = false) ∨ (u0 = false ∧ v0 = false ∧ u1 = true ∧ s = false) ∨ (u0 = false ∧ v0 = false ∧ u1 = false ∧ v1 = true ∧ s = false) ∨ (u0 = false ∧ v0 = false ∧ u1 = false ∧ v1 = false ∧ s = gd) := by
    have kk : s = true ↔ ((u0 = false ∧ v0 = false ∧ u1 = false ∧ v1 = false) ∧ gd = true) := by
      rw [hs, ← hgd, decide_eq_true_iff]
      unfold fineX
      constructor
      · rintro ⟨a, hgd'⟩
        refine ⟨?_, hgd'⟩
        obtain ⟨a0, b0⟩ := k0.2 (a x0 (by simp))
        obtain ⟨a1, b1⟩ := k1.2 (a x1 (by simp))
        exact ⟨a0, b0, a1, b1⟩
      · rintro ⟨⟨a0, b0, a1, b1⟩, hgd'⟩
        refine ⟨fun x hx => ?_, hgd'⟩
        simp only [List.mem_cons, List.not_mem_nil, or_false] at hx
        rcases hx with rfl | rfl
        · exact k0.1 ⟨a0, b0⟩
        · exact k1.1 ⟨a1, b1⟩
    clear hs k0 c0 hu0 hv0 t0 h0 k1 c1 hu1 hv1 t1 h1 cg hgd tq hR hm
    cases s <;> cases gd <;> cases u0 <;> cases v0 <;> cases u1 <;> cases v1 <;> simp_all
  clear hs k0 k1 hgd
  generalize nl2 x0 x1 = row at *
  rcases hc with ⟨rfl, rfl⟩ | ⟨rfl, rfl, rfl⟩ | ⟨rfl, rfl, rfl, rfl⟩ | ⟨rfl, rfl, rfl, rfl, rfl⟩ | ⟨rfl, rfl, rfl, rfl, rfl⟩
  all_goals
    go_enter Try.func17, Try.ntmps17
    go_wp2_with (first | (refine' xAf hR rfl rfl rfl ?_; clear hR; intro blk w hR) | (refine' xAb hR rfl rfl inferInstance ?_; clear hR; intro blk w hR) | (refine' xAc hR rfl rfl rfl inferInstance ?hm ?hn ?_; (case hm => first | with_reducible assumption | repeat (first | exact .head _ | with_reducible assumption | apply mC)); (case hn => first | rfl | simp)) | (refine' xAd hR rfl rfl rfl inferInstance ?hm ?hv ?hn ?_; (case hm => first | with_reducible assumption | repeat (first | exact .head _ | with_reducible assumption | apply mC)); (case hv => first | with_reducible assumption | (simp only [kC, kD, kE, kF]; try rfl)); (case hn => first | rfl | simp)) | (refine' xAa hR rfl rfl rfl inferInstance rfl ?hs ?zone ?zvn ?hn ?_; (case hs => repeat (first | exact xAh.head | apply xAh.tail)); (case zone => first | rfl | with_reducible assumption); (case zvn => first | rfl | simp); (case hn => first | rfl | simp); clear hR; intro w hR) | fail)
    refine wp_loop_rounds 3 ?_
    repeat (
      rw [rounds_succ]
      go_wp2_with (first | (refine' xAf hR rfl rfl rfl ?_; clear hR; intro blk w hR) | (refine' xAb hR rfl rfl inferInstance ?_; clear hR; intro blk w hR) | (refine' xAc hR rfl rfl rfl inferInstance ?hm ?hn ?_; (case hm => first | with_reducible assumption | repeat (first | exact .head _ | with_reducible assumption | apply mC)); (case hn => first | rfl | simp)) | (refine' xAd hR rfl rfl rfl inferInstance ?hm ?hv ?hn ?_; (case hm => first | with_reducible assumption | repeat (first | exact .head _ | with_reducible assumption | apply mC)); (case hv => first | with_reducible assumption | (simp only [kC, kD, kE, kF]; try rfl)); (case hn => first | rfl | simp)) | (refine' xAa hR rfl rfl rfl inferInstance rfl ?hs ?zone ?zvn ?hn ?_; (case hs => repeat (first | exact xAh.head | apply xAh.tail)); (case zone => first | rfl | with_reducible assumption); (case zvn => first | rfl | simp); (case hn => first | rfl | simp); clear hR; intro w hR) | fail)
      refine xAn hR [0, 0, 0, 0, 0, 0, 0, 0, 0, 0, 0, 0, 0, 0, 0, 0] [] xCu (by kernel_rfl) rfl rfl (fun K hK => ?_)
      clear hR
      repeat ((first | (refine xBo ?_) | (refine' xAv (by decide) rfl (.inl rfl) rfl ?ha ?_) | (refine' xAv (by decide) rfl (.inr rfl) rfl ?ha ?_) | (refine' xAu rfl rfl rfl inferInstance ?hm ?hn ?ha ?_; (case hm => first | with_reducible assumption | repeat (first | exact .head _ | with_reducible assumption | apply mC)); (case hn => first | rfl | simp)) | (refine' xAp rfl rfl rfl inferInstance ?hm ?hv ?hn ?ha ?_; (case hm => first | with_reducible assumption | repeat (first | exact .head _ | with_reducible assumption | apply mC)); (case hv => first | with_reducible assumption | (simp only [kC, kD, kE, kF]; try rfl)); (case hn => first | rfl | simp)) | (refine' xAl rfl rfl rfl inferInstance ?hm ?hv ?ha ?_; (case hm => first | with_reducible assumption | repeat (first | exact .head _ | with_reducible assumption | apply mC)); (case hv => first | rfl | with_reducible assumption)) | (refine' xAq rfl rfl rfl inferInstance ?hm ?hv ?hn ?ha ?_; (case hm => first | with_reducible assumption | repeat (first | exact .head _ | with_reducible assumption | apply mC)); (case hv => first | with_reducible assumption | (simp only [kC, kD, kE, kF]; try rfl)); (case hn => first | rfl | simp)) | (refine' xAm rfl rfl rfl inferInstance ?hm ?hv ?ha ?_; (case hm => first | with_reducible assumption | repeat (first | exact .head _ | with_reducible assumption | apply mC)); (case hv => first | rfl | with_reducible assumption)) | ((first | refine' xAi (by decide) rfl rfl rfl rfl (fun w => ?hq) ?ha ?_ | refine' xBe (by decide) rfl rfl rfl rfl (fun w => ?hq) ?ha ?_ | refine' xAs (by decide) rfl rfl rfl (fun w => ?hq) ?ha ?_ | refine' xAj (by decide) rfl rfl rfl (fun w => ?hq) ?ha ?_ | refine' xAt (by decide) rfl rfl rfl (fun w => ?hq) ?ha ?_ | refine' xBh (by decide) rfl rfl rfl rfl (fun w => ?hq) ?ha ?_ | refine' xBg (by decide) rfl rfl rfl rfl rfl rfl (fun w => ?hq) ?ha ?_ | refine' xBd (by decide) rfl rfl (fun w => ?hq) ?ha ?_ | refine' xAr (by decide) rfl rfl rfl (fun w => ?hq) ?ha ?_ | refine' xBf (by decide) rfl rfl rfl (fun w => ?hq) ?ha ?_); (case hq => go_simp; try rfl)) | (refine' xAk (by decide) rfl rfl rfl ?ha ?_) | (refine' xBp (by decide) rfl rfl rfl rfl ?ha ?_) | (refine' xBn (by decide) rfl ?ha ?_) | (refine' xBi rfl rfl rfl (xBm Try.func13 (by kernel_rfl) (by kernel_rfl) _) (fun w => c0 w) ?ha ?_) | (refine' xBi rfl rfl rfl (xBm Try.func13 (by kernel_rfl) (by kernel_rfl) _) (fun w => c1 w) ?ha ?_)); try (case ha => simp only [kP, kQ, kA, kB]; try rfl))
      refine xBt (hK _ _ ?_)
      clear hK K
      refine xBy (fun Q hQ => ?_)
      try simp only [List.nil_append, List.cons_append]
      repeat ((first | refine' xBa rfl (.inl rfl) rfl ?hk ?ha ?_ | refine' xBa rfl (.inr rfl) rfl ?hk ?ha ?_ | (refine' xAx rfl rfl rfl inferInstance rfl ?hs rfl rfl ?hn ?hk ?ha ?_; (case hs => repeat (first | exact xAh.head | apply xAh.tail)); (case hn => first | rfl | simp)) | (refine' xAo rfl rfl rfl inferInstance rfl rfl ?hs ?hn ?hl ?hk ?ha ?_; (case hs => repeat (first | exact xAh.head | apply xAh.tail)); (case hn => first | exact oD rfl | (show _ < 4; with_reducible assumption) | (simp; try omega)); (case hl => first | with_reducible assumption | (simp only [nl, kA, kB]; first | done | rfl) | rfl)) | (refine' xAw rfl rfl rfl inferInstance rfl rfl ?hvn ?hs ?hn ?hl ?hk ?ha ?_; (case hvn => first | rfl | simp); (case hs => repeat (first | exact xAh.head | apply xAh.tail)); (case hn => first | exact oD rfl | (show _ < 4; with_reducible assumption) | (simp; try omega)); (case hl => first | with_reducible assumption | (simp only [nl, kA, kB]; first | done | rfl) | rfl)) | (refine' xBq rfl (fun w => ?hq) ?hk ?ha ?_; (case hq => go_simp; try rfl))); (case hk => intro p hp; first | exact absurd hp List.not_mem_nil | (obtain rfl := List.mem_singleton.1 hp; repeat (first | exact List.Mem.head _ | with_reducible assumption | apply mC))); (case ha => simp only [kP, kQ, kA, kB]; try rfl))
      refine xBz (fun w hR => hQ _ _ ?_)
      clear hQ Q
      go_wp2_with (first | (refine' xAf hR rfl rfl rfl ?_; clear hR; intro blk w hR) | (refine' xAb hR rfl rfl inferInstance ?_; clear hR; intro blk w hR) | (refine' xAc hR rfl rfl rfl inferInstance ?hm ?hn ?_; (case hm => first | with_reducible assumption | repeat (first | exact .head _ | with_reducible assumption | apply mC)); (case hn => first | rfl | simp)) | (refine' xAd hR rfl rfl rfl inferInstance ?hm ?hv ?hn ?_; (case hm => first | with_reducible assumption | repeat (first | exact .head _ | with_reducible assumption | apply mC)); (case hv => first | with_reducible assumption | (simp only [kC, kD, kE, kF]; try rfl)); (case hn => first | rfl | simp)) | (refine' xAa hR rfl rfl rfl inferInstance rfl ?hs ?zone ?zvn ?hn ?_; (case hs => repeat (first | exact xAh.head | apply xAh.tail)); (case zone => first | rfl | with_reducible assumption); (case zvn => first | rfl | simp); (case hn => first | rfl | simp); clear hR; intro w hR) | fail))
    first
      | (go_ret; exact ⟨rfl, hR.weaken (by repeat (first | exact List.Sublist.refl _ | apply List.Sublist.cons))⟩)
      | (rw [rounds_succ]; go_wp2_with (first | (refine' xAf hR rfl rfl rfl ?_; clear hR; intro blk w hR) | (refine' xAb hR rfl rfl inferInstance ?_; clear hR; intro blk w hR) | (refine' xAc hR rfl rfl rfl inferInstance ?hm ?hn ?_; (case hm => first | with_reducible assumption | repeat (first | exact .head _ | with_reducible assumption | apply mC)); (case hn => first | rfl | simp)) | (refine' xAd hR rfl rfl rfl inferInstance ?hm ?hv ?hn ?_; (case hm => first | with_reducible assumption | repeat (first | exact .head _ | with_reducible assumption | apply mC)); (case hv => first | with_reducible assumption | (simp only [kC, kD, kE, kF]; try rfl)); (case hn => first | rfl | simp)) | (refine' xAa hR rfl rfl rfl inferInstance rfl ?hs ?zone ?zvn ?hn ?_; (case hs => repeat (first | exact xAh.head | apply xAh.tail)); (case zone => first | rfl | with_reducible assumption); (case zvn => first | rfl | simp); (case hn => first | rfl | simp); clear hR; intro w hR) | (go_at_call 34; refine (cg _).mono ?_; rintro e w ⟨rfl, hb⟩; replace hR := hR.call hb; clear hb)); go_ret; exact ⟨rfl, hR.weaken (by repeat (first | exact List.Sublist.refl _ | apply List.Sublist.cons))⟩)
set_option maxRecDepth 100000 in
set_option maxHeartbeats 16000000 in
theorem fine3_lit {p q g h x0 x1 x2 b : Nat} {s : Bool} (hp : p < B) (hq : q < B) (hg : g < B) (hh : h < B) (h0 : x0 < B) (h1 : x1 < B) (h2 : x2 < B) (hs : s = true ↔ fineX p q g h [x0, x1, x2]) (hm : (b, Obj.cells (nl3x x0 x1 x2).toArray 24) ∈ L) (hR : Rep B0 w0 L w) :
    Calls Try.prog 17 #[grp p q g h, .slice (some ⟨b, 0, none⟩) 3 3] w fun e w' => e = .returned (.bool s) ∧ Rep B0 w0 L w' := by
  classical
  have tq := gl_q p q g h
  obtain ⟨gd, hgd⟩ : ∃ b : Bool, decide (goodG p q g h) = b := ⟨_, rfl⟩
  have cg := good_lit (s := gd) hp hq hg hh (by rw [← hgd]; exact decide_eq_true_iff)
  have t0 : ((nl3x x0 x1 x2).drop 0).take 4 = nl x0 := rfl
  have k0 := one_fine (q := q) h0
  have c0 := xCi h0 hq rfl
  generalize cmpN x0 q = z0 at *
  obtain ⟨u0, hu0⟩ : ∃ b : Bool, decide (0 ≤ z0) = b := ⟨_, rfl⟩
  obtain ⟨v0, hv0⟩ : ∃ b : Bool, eqN x0 0 = b := ⟨_, rfl⟩
  rw [hu0, hv0] at k0
  have t1 : ((nl3x x0 x1 x2).drop 4).take 4 = nl x1 := rfl
  have k1 := one_fine (q := q) h1
  have c1 := xCi h1 hq rfl
  generalize cmpN x1 q = z1 at *
  obtain ⟨u1, hu1⟩ : ∃ b : Bool, decide (0 ≤ z1) = b := ⟨_, rfl⟩
  obtain ⟨v1, hv1⟩ : ∃ b : Bool, eqN x1 0 = b := ⟨_, rfl⟩
  rw [hu1, hv1] at k1
  have t2 : ((nl3x x0 x1 x2).drop 8).take 4 = nl x2 := rfl
  have k2 := one_fine (q := q) h2
  have c2 := xCi h2 hq rfl
  generalize cmpN x2 q = z2 at *
  obtain ⟨u2, hu2⟩ : ∃ b : Bool, decide (0 ≤ z2) = b := ⟨_, rfl⟩
  obtain ⟨v2, hv2⟩ : ∃ b : Bool, eqN x2 0 = b := ⟨_, rfl⟩
  rw [hu2, hv2] at k2
  have hc : (u0 = true ∧ s = false) ∨ (u0 = false ∧ v0 = true ∧ s = false) ∨ (u0 = false ∧ v0 = false ∧ u1 = true ∧ s = false) ∨ (u0 = false ∧ v0 = false ∧ u1 = false ∧ v1 = true ∧ s = false) ∨ (u0 = false ∧ v0 = false ∧ u1 = false ∧ v1 = false ∧ u2 = true ∧ s = false) ∨ (u0 = false ∧ v0 = false ∧ u1 = false ∧ v1 = false ∧ u2 = false ∧ v2 = true ∧ s = false) ∨ (u0 = false ∧ v0 = false ∧ u1 = false ∧ v1 = false ∧ u2 = false ∧ v2 = false ∧ s = gd) := by
    have kk : s = true ↔ ((u0 = false ∧ v0 = false ∧ u1 = false ∧ v1 = false ∧ u2 = false ∧ v2 = false) ∧ gd = true) := by
      rw [hs, ← hgd, decide_eq_true_iff]
      unfold fineX
      constructor
      · rintro ⟨a, hgd'⟩
        refine ⟨?_, hgd'⟩
        obtain ⟨a0, b0⟩ := k0.2 (a x0 (by simp))
        obtain ⟨a1, b1⟩ := k1.2 (a x1 (by simp))
        obtain ⟨a2, b2⟩ := k2.2 (a x2 (by simp))
        exact ⟨a0, b0, a1, b1, a2, b2⟩
      · rintro ⟨⟨a0, b0, a1, b1, a2, b2⟩, hgd'⟩
        refine ⟨fun x hx => ?_, hgd'⟩
        simp only [List.mem_cons, List.not_mem_nil, or_false] at hx
        rcases hx with rfl | rfl | rfl
        · exact k0.1 ⟨a0, b0⟩
        · exact k1.1 ⟨a1, b1⟩
        · exact k2.1 ⟨a2, b2⟩
    clear hs k0 c0 hu0 hv0 t0 h0 k1 c1 hu1 hv1 t1 h1 k2 c2 hu2 hv2 t2 h2 cg hgd tq hR hm
    cases s <;> cases gd <;> cases u0 <;> cases v0 <;> cases u1 <;> cases v1 <;> cases u2 <;> cases v2 <;> simp_all
  clear hs k0 k1 k2 hgd
  generalize nl3x x0 x1 x2 = row at *
  rcases hc with ⟨rfl, rfl⟩ | ⟨rfl, rfl, rfl⟩ | ⟨rfl, rfl, rfl, rfl⟩ | ⟨rfl, rfl, rfl, rfl, rfl⟩ | ⟨rfl, rfl, rfl, rfl, rfl, rfl⟩ | ⟨rfl, rfl, rfl, rfl, rfl, rfl, rfl⟩ | ⟨rfl, rfl, rfl, rfl, rfl, rfl, rfl⟩
  all_goals
    go_enter Try.func17, Try.ntmps17
    go_wp2_with (first | (refine' xAf hR rfl rfl rfl ?_; clear hR; intro blk w hR) | (refine' xAb hR rfl rfl inferInstance ?_; clear hR; intro blk w hR) | (refine' xAc hR rfl rfl rfl inferInstance ?hm ?hn ?_; (case hm => first | with_reducible assumption | repeat (first | exact .head _ | with_reducible assumption | apply mC)); (case hn => first | rfl | simp)) | (refine' xAd hR rfl rfl rfl inferInstance ?hm ?hv ?hn ?_; (case hm => first | with_reducible assumption | repeat (first | exact .head _ | with_reducible assumption | apply mC)); (case hv => first | with_reducible assumption | (simp only [kC, kD, kE, kF]; try rfl)); (case hn => first | rfl | simp)) | (refine' xAa hR rfl rfl rfl inferInstance rfl ?hs ?zone ?zvn ?hn ?_; (case hs => repeat (first | exact xAh.head | apply xAh.tail)); (case zone => first | rfl | with_reducible assumption); (case zvn => first | rfl | simp); (case hn => first | rfl | simp); clear hR; intro w hR) | fail)
    refine wp_loop_rounds 4 ?_
    repeat (
      rw [rounds_succ]
      go_wp2_with (first | (refine' xAf hR rfl rfl rfl ?_; clear hR; intro blk w hR) | (refine' xAb hR rfl rfl inferInstance ?_; clear hR; intro blk w hR) | (refine' xAc hR rfl rfl rfl inferInstance ?hm ?hn ?_; (case hm => first | with_reducible assumption | repeat (first | exact .head _ | with_reducible assumption | apply mC)); (case hn => first | rfl | simp)) | (refine' xAd hR rfl rfl rfl inferInstance ?hm ?hv ?hn ?_; (case hm => first | with_reducible assumption | repeat (first | exact .head _ | with_reducible assumption | apply mC)); (case hv => first | with_reducible assumption | (simp only [kC, kD, kE, kF]; try rfl)); (case hn => first | rfl | simp)) | (refine' xAa hR rfl rfl rfl inferInstance rfl ?hs ?zone ?zvn ?hn ?_; (case hs => repeat (first | exact xAh.head | apply xAh.tail)); (case zone => first | rfl | with_reducible assumption); (case zvn => first | rfl | simp); (case hn => first | rfl | simp); clear hR; intro w hR) | fail)
      refine xAn hR [0, 0, 0, 0, 0, 0, 0, 0, 0, 0, 0, 0, 0, 0, 0, 0] [] xCu (by kernel_rfl) rfl rfl (fun K hK => ?_)
      clear hR
      repeat ((first | (refine xBo ?_) | (refine' xAv (by decide) rfl (.inl rfl) rfl ?ha ?_) | (refine' xAv (by decide) rfl (.inr rfl) rfl ?ha ?_) | (refine' xAu rfl rfl rfl inferInstance ?hm ?hn ?ha ?_; (case hm => first | with_reducible assumption | repeat (first | exact .head _ | with_reducible assumption | apply mC)); (case hn => first | rfl | simp)) | (refine' xAp rfl rfl rfl inferInstance ?hm ?hv ?hn ?ha ?_; (case hm => first | with_reducible assumption | repeat (first | exact .head _ | with_reducible assumption | apply mC)); (case hv => first | with_reducible assumption | (simp only [kC, kD, kE, kF]; try rfl)); (case hn => first | rfl | simp)) | (refine' xAl rfl rfl rfl inferInstance ?hm ?hv ?ha ?_; (case hm => first | with_reducible assumption | repeat (first | exact .head _ | with_reducible assumption | apply mC)); (case hv => first | rfl | with_reducible assumption)) | (refine' xAq rfl rfl rfl inferInstance ?hm ?hv ?hn ?ha ?_; (case hm => first | with_reducible assumption | repeat (first | exact .head _ | with_reducible assumption | apply mC)); (case hv => first | with_reducible assumption | (simp only [kC, kD, kE, kF]; try rfl)); (case hn => first | rfl | simp)) | (refine' xAm rfl rfl rfl inferInstance ?hm ?hv ?ha ?_; (case hm => first | with_reducible assumption | repeat (first | exact .head _ | with_reducible assumption | apply mC)); (case hv => first | rfl | with_reducible assumption)) | ((first | refine' xAi (by decide) rfl rfl rfl rfl (fun w => ?hq) ?ha ?_ | refine' xBe (by decide) rfl rfl rfl rfl (fun w => ?hq) ?ha ?_ | refine' xAs (by decide) rfl rfl rfl (fun w => ?hq) ?ha ?_ | refine' xAj (by decide) rfl rfl rfl (fun w => ?hq) ?ha ?_ | refine' xAt (by decide) rfl rfl rfl (fun w => ?hq) ?ha ?_ | refine' xBh (by decide) rfl rfl rfl rfl (fun w => ?hq) ?ha ?_ | refine' xBg (by decide) rfl rfl rfl rfl rfl rfl (fun w => ?hq) ?ha ?_ | refine' xBd (by decide) rfl rfl (fun w => ?hq) ?ha ?_ | refine' xAr (by decide) rfl rfl rfl (fun w => ?hq) ?ha ?_ | refine' xBf (by decide) rfl rfl rfl (fun w => ?hq) ?ha ?_); (case hq => go_simp; try rfl)) | (refine' xAk (by decide) rfl rfl rfl ?ha ?_) | (refine' xBp (by decide) rfl rfl rfl rfl ?ha ?_) | (refine' xBn (by decide) rfl ?ha ?_) | (refine' xBi rfl rfl rfl (xBm Try.func13 (by kernel_rfl) (by kernel_rfl) _) (fun w => c0 w) ?ha ?_) | (refine' xBi rfl rfl rfl (xBm Try.func13 (by kernel_rfl) (by kernel_rfl) _) (fun w => c1 w) ?ha ?_) | (refine' xBi rfl rfl rfl (xBm Try.func13 (by kernel_rfl) (by kernel_rfl) _) (fun w => c2 w) ?ha ?_)); try (case ha => simp only [kP, kQ, kA, kB]; try rfl))
      refine xBt (hK _ _ ?_)
      clear hK K
      refine xBy (fun Q hQ => ?_)
      try simp only [List.nil_append, List.cons_append]
      repeat ((first | refine' xBa rfl (.inl rfl) rfl ?hk ?ha ?_ | refine' xBa rfl (.inr rfl) rfl ?hk ?ha ?_ | (refine' xAx rfl rfl rfl inferInstance rfl ?hs rfl rfl ?hn ?hk ?ha ?_; (case hs => repeat (first | exact xAh.head | apply xAh.tail)); (case hn => first | rfl | simp)) | (refine' xAo rfl rfl rfl inferInstance rfl rfl ?hs ?hn ?hl ?hk ?ha ?_; (case hs => repeat (first | exact xAh.head | apply xAh.tail)); (case hn => first | exact oD rfl | (show _ < 4; with_reducible assumption) | (simp; try omega)); (case hl => first | with_reducible assumption | (simp only [nl, kA, kB]; first | done | rfl) | rfl)) | (refine' xAw rfl rfl rfl inferInstance rfl rfl ?hvn ?hs ?hn ?hl ?hk ?ha ?_; (case hvn => first | rfl | simp); (case hs => repeat (first | exact xAh.head | apply xAh.tail)); (case hn => first | exact oD rfl | (show _ < 4; with_reducible assumption) | (simp; try omega)); (case hl => first | with_reducible assumption | (simp only [nl, kA, kB]; first | done | rfl) | rfl)) | (refine' xBq rfl (fun w => ?hq) ?hk ?ha ?_; (case hq => go_simp; try rfl))); (case hk => intro p hp; first | exact absurd hp List.not_mem_nil | (obtain rfl := List.mem_singleton.1 hp; repeat (first | exact List.Mem.head _ | with_reducible assumption | apply mC))); (case ha => simp only [kP, kQ, kA, kB]; try rfl))
      refine xBz (fun w hR => hQ _ _ ?_)
      clear hQ Q
      go_wp2_with (first | (refine' xAf hR rfl rfl rfl ?_; clear hR; intro blk w hR) | (refine' xAb hR rfl rfl inferInstance ?_; clear hR; intro blk w hR) | (refine' xAc hR rfl rfl rfl inferInstance ?hm ?hn ?_; (case hm => first | with_reducible assumption | repeat (first | exact .head _ | with_reducible assumption | apply mC)); (case hn => first | rfl | simp)) | (refine' xAd hR rfl rfl rfl inferInstance ?hm ?hv ?hn ?_; (case hm => first | with_reducible assumption | repeat (first | exact .head _ | with_reducible assumption | apply mC)); (case hv => first | with_reducible assumption | (simp only [kC, kD, kE, kF]; try rfl)); (case hn => first | rfl | simp)) | (refine' xAa hR rfl rfl rfl inferInstance rfl ?hs ?zone ?zvn ?hn ?_; (case hs => repeat (first | exact xAh.head | apply xAh.tail)); (case zone => first | rfl | with_reducible assumption); (case zvn => first | rfl | simp); (case hn => first | rfl | simp); clear hR; intro w hR) | fail))
    first
      | (go_ret; exact ⟨rfl, hR.weaken (by repeat (first | exact List.Sublist.refl _ | apply List.Sublist.cons))⟩)
      | (rw [rounds_succ]; go_wp2_with (first | (refine' xAf hR rfl rfl rfl ?_; clear hR; intro blk w hR) | (refine' xAb hR rfl rfl inferInstance ?_; clear hR; intro blk w hR) | (refine' xAc hR rfl rfl rfl inferInstance ?hm ?hn ?_; (case hm => first | with_reducible assumption | repeat (first | exact .head _ | with_reducible assumption | apply mC)); (case hn => first | rfl | simp)) | (refine' xAd hR rfl rfl rfl inferInstance ?hm ?hv ?hn ?_; (case hm => first | with_reducible assumption | repeat (first | exact .head _ | with_reducible assumption | apply mC)); (case hv => first | with_reducible assumption | (simp only [kC, kD, kE, kF]; try rfl)); (case hn => first | rfl | simp)) | (refine' xAa hR rfl rfl rfl inferInstance rfl ?hs ?zone ?zvn ?hn ?_; (case hs => repeat (first | exact xAh.head | apply xAh.tail)); (case zone => first | rfl | with_reducible assumption); (case zvn => first | rfl | simp); (case hn => first | rfl | simp); clear hR; intro w hR) | (go_at_call 34; refine (cg _).mono ?_; rintro e w ⟨rfl, hb⟩; replace hR := hR.call hb; clear hb)); go_ret; exact ⟨rfl, hR.weaken (by repeat (first | exact List.Sublist.refl _ | apply List.Sublist.cons))⟩)
end
end Go.Proofs.Ytklidiambinhkaa
