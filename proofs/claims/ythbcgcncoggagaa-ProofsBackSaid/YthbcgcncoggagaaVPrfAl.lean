/- The laws' own helper of layer 14: alive. -/
import Derived.Test.YthbcgcncoggagaaVPrfLaw
set_option linter.unusedVariables false
set_option linter.unusedSimpArgs false
namespace Go.Proofs.Ythbcgcncoggagaa
open Go.RowKit
attribute [local irreducible] Calls Instr.build Instr.buildSlice
set_option maxRecDepth 100000 in
set_option maxHeartbeats 16000000 in
theorem alive14_any (w : World) : Calls Try.prog 14 #[] w fun e w' => e = .returned (.bool true) ∧ Below w.heap.size w w' := by
  obtain ⟨n0, h0⟩ : ∃ n, n = 0 := ⟨_, rfl⟩
  obtain ⟨n3, h3⟩ : ∃ n, n = 3 := ⟨_, rfl⟩
  obtain ⟨n4, h4⟩ : ∃ n, n = 4 := ⟨_, rfl⟩
  obtain ⟨n5, h5⟩ : ∃ n, n = 5 := ⟨_, rfl⟩
  obtain ⟨n9, h9⟩ : ∃ n, n = 9 := ⟨_, rfl⟩
  obtain ⟨n11, h11⟩ : ∃ n, n = 11 := ⟨_, rfl⟩
  obtain ⟨n23, h23⟩ : ∃ n, n = 23 := ⟨_, rfl⟩
  have L0 : n0 < B := lt_B (by omega)
  have L3 : n3 < B := lt_B (by omega)
  have L4 : n4 < B := lt_B (by omega)
  have L5 : n5 < B := lt_B (by omega)
  have L9 : n9 < B := lt_B (by omega)
  have L11 : n11 < B := lt_B (by omega)
  have L23 : n23 < B := lt_B (by omega)
  have kn := known_any h23 h11 h4 h9
  have tg := gl_g n23 n11 n4 n9
  have th := gl_h n23 n11 n4 n9
  have b0 : ∀ w, (Instr.build 24 #[]).run Try.prog w = .ok (num n0) w := fun w => by rw [h0]; exact build_none w
  have b3 := fun w => build_few (n := n3) (k := 3) (by omega) (by omega) w
  have b5 := fun w => build_few (n := n5) (k := 5) (by omega) (by omega) w
  have b11 := fun w => build_few (n := n11) (k := 11) (by omega) (by omega) w
  have g4 : inG n23 n11 n4 := by rw [h23, h11, h4]; exact ⟨⟨by decide, by decide, by decide⟩, by rw [xCd]⟩
  have g9 : inG n23 n11 n9 := by rw [h23, h11, h9]; exact ⟨⟨by decide, by decide, by decide⟩, by rw [xCd]⟩
  have q1 : 1 < n11 := by omega
  have sx : (⟨#[120]⟩ : ByteArray).size ≤ 100000 := by decide
  have p1 := fun w => prove_yes (g := n4) (h := n9) (s := ⟨#[120]⟩) L23 L11 L5 L4 L9 L3 sx (prove_may g4 g9 q1 (by omega : n5 < n11) (by omega) (by omega : n3 < n11)) w
  have p2 := fun w => prove_no (g := n4) (h := n9) (s := ⟨#[120]⟩) (x := n11) (base := n4) (y := n9) (d := n3) L23 L11 L11 L4 L9 L3 (fun h => absurd h.2.1.2 (by omega)) w
  have p3 := fun w => prove_no (g := n4) (h := n9) (s := ⟨#[120]⟩) (x := n5) (base := n4) (y := n9) (d := n0) L23 L11 L5 L4 L9 L0 (fun h => h.2.2.2 h0) w
  have k1 := proved_ok (s := ⟨#[120]⟩) (x := n5) (d := n3) g4 g9 q1
  obtain ⟨a, ea⟩ : ∃ k, powN n4 n5 n23 = k := ⟨_, rfl⟩
  obtain ⟨b, eb⟩ : ∃ k, powN n9 n5 n23 = k := ⟨_, rfl⟩
  have x1 := pw14_lit (q := n11) (g := n4) (h := n9) (r := a) L23 L4 L5 (by rw [if_pos g4.1, ea])
  have x2 := pw14_lit (q := n11) (g := n4) (h := n9) (r := b) L23 L9 L5 (by rw [if_pos g9.1, eb])
  rw [ea, eb] at k1
  have lC : prC n23 n11 ⟨#[120]⟩ n5 n4 n9 n3 < n11 := prC_lt q1
  have lS : prS n23 n11 ⟨#[120]⟩ n5 n4 n9 n3 < n11 := prS_lt q1
  generalize prC n23 n11 ⟨#[120]⟩ n5 n4 n9 n3 = C at *
  generalize prS n23 n11 ⟨#[120]⟩ n5 n4 n9 n3 = S at *
  have la : a < B := by have := k1.1.2.1.1.2.2; omega
  have lb : b < B := by have := k1.1.2.2.2.1.2.2; omega
  have c1 := fun w => pchk_lit (g := n4) (h := n9) (res := true) L23 L11 L4 la L9 lb (by omega : C < B) (by omega : S < B) sx ⟨fun _ => k1, fun _ => rfl⟩ w
  have c2 := fun w => pchk_lit (g := n4) (h := n9) (res := false) (s := ⟨#[120]⟩) L23 L11 L4 la L9 L5 (by omega : C < B) (by omega : S < B) sx ⟨fun h => (by cases h), fun h => absurd h.1.2.2.2.2 (by rw [h23, h11, h5, xCd]; decide)⟩ w
  have c3 := fun w => pchk_lit (g := n4) (h := n9) (res := false) (s := ⟨#[120]⟩) L23 L11 L0 la L9 lb (by omega : C < B) (by omega : S < B) sx ⟨fun h => (by cases h), fun h => absurd h0 h.1.1.1.2.1⟩ w
  rw [show num n5 = Value.agg #[.int .u64 5, .int .u64 0, .int .u64 0, .int .u64 0] by rw [h5]; exact (num_few (n := 5) (by decide)).symm] at c2
  rw [show num n0 = Value.agg #[.int .u64 0, .int .u64 0, .int .u64 0, .int .u64 0] by rw [h0]; exact num_zero.symm] at c3
  clear h0 L0 h3 L3 h4 L4 h5 L5 h9 L9 h11 L11 h23 L23 q1 g4 g9 ea eb k1 lC lS la lb sx
  have hR := Rep.init w
  go_enter Try.func14, Try.ntmps14
  go_wp2_with (first | go_skip | (refine' xAe hR rfl rfl rfl ?_; clear hR; intro blk w hR) | (refine' xAb hR rfl rfl inferInstance ?_; clear hR; intro blk w hR) | (refine' xAc hR rfl rfl rfl inferInstance ?hm ?hn ?_; (case hm => first | with_reducible assumption | repeat (first | exact .head _ | with_reducible assumption | apply mC)); (case hn => first | rfl | simp)) | (refine' xAd hR rfl rfl rfl inferInstance ?hm ?hv ?hn ?_; (case hm => first | with_reducible assumption | repeat (first | exact .head _ | with_reducible assumption | apply mC)); (case hv => first | with_reducible assumption | (simp only [kC, kD, kE, kF]; try rfl)); (case hn => first | rfl | simp)) | (refine' xBg hR rfl rfl rfl inferInstance ?hm ?hv ?_; (case hm => first | with_reducible assumption | repeat (first | exact .head _ | with_reducible assumption | apply mC)); (case hv => first | rfl | with_reducible assumption)) | (refine' xAa hR rfl rfl rfl inferInstance rfl ?hs ?zone ?zvn ?hn ?_; (case hs => repeat (first | exact xAf.head | apply xAf.tail)); (case zone => first | rfl | with_reducible assumption); (case zvn => first | rfl | simp); (case hn => first | rfl | simp); clear hR; intro w hR) | (refine' xBe hR rfl rfl rfl inferInstance rfl rfl ?hs ?hn ?hl ?_; (case hs => repeat (first | exact xAf.head | apply xAf.tail)); (case hn => first | exact oD rfl | (show _ < 4; with_reducible assumption) | (simp; try omega)); (case hl => first | with_reducible assumption | (simp only [nl, kA, kB]; first | done | rfl) | rfl); clear hR; intro w hR) | (refine' xAg hR rfl rfl rfl inferInstance ?hm ?hn ?_; (case hm => first | with_reducible assumption | repeat (first | exact .head _ | with_reducible assumption | apply mC)); (case hn => first | rfl | simp)) | (refine' xBf hR rfl rfl rfl inferInstance ?hm ?hv ?_; (case hm => first | with_reducible assumption | repeat (first | exact .head _ | with_reducible assumption | apply mC)); (case hv => first | rfl | with_reducible assumption)) | (refine' xAp hR rfl rfl rfl inferInstance ?hm ?hv ?hn ?_; (case hm => first | with_reducible assumption | repeat (first | exact .head _ | with_reducible assumption | apply mC)); (case hv => first | with_reducible assumption | (simp only [kC, kD, kE, kF]; try rfl)); (case hn => first | rfl | simp)) | (go_at_call 47; refine (kn _).mono ?_; rintro e w ⟨rfl, hb⟩; replace hR := hR.call hb; clear hb) | (go_at_call 15; refine (x1 _).mono ?_; rintro e w ⟨rfl, hb⟩; replace hR := hR.call hb; clear hb) | (go_at_call 15; refine (x2 _).mono ?_; rintro e w ⟨rfl, hb⟩; replace hR := hR.call hb; clear hb) | (go_at_call 16; refine (p1 _).mono ?_; rintro e w ⟨rfl, hb⟩; replace hR := hR.call hb; clear hb) | (go_at_call 16; refine (p2 _).mono ?_; rintro e w ⟨rfl, hb⟩; replace hR := hR.call hb; clear hb) | (go_at_call 16; refine (p3 _).mono ?_; rintro e w ⟨rfl, hb⟩; replace hR := hR.call hb; clear hb) | (go_at_call 17; refine (c1 _).mono ?_; rintro e w ⟨rfl, hb⟩; replace hR := hR.call hb; clear hb) | (go_at_call 17; refine (c2 _).mono ?_; rintro e w ⟨rfl, hb⟩; replace hR := hR.call hb; clear hb) | (go_at_call 17; refine (c3 _).mono ?_; rintro e w ⟨rfl, hb⟩; replace hR := hR.call hb; clear hb) | (refine' xCf rfl rfl ?hrun ?_; (case hrun => simp only [List.map_toArray, List.map_cons, List.map_nil]; first | exact b0 _ | exact b3 _ | exact b5 _ | exact b11 _)))
  go_ret
  exact ⟨rfl, hR.below⟩
end Go.Proofs.Ythbcgcncoggagaa
