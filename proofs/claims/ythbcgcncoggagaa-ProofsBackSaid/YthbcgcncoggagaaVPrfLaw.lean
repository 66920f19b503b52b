/- The laws' own helpers of layer 14: power, fine, alive. -/
import Derived.Test.YthbcgcncoggagaaVPC
import Derived.Test.YthbcgcncoggagaaVPrfOpen
import Derived.Test.YthbcgcncoggagaaVGC
import Derived.Test.YthbcgcncoggagaaVSigLaw
set_option linter.unusedVariables false
set_option linter.unusedSimpArgs false
namespace Go.Proofs.Ythbcgcncoggagaa
open Go.RowKit
theorem seven_bools : ∀ s0 s1 s2 s3 s4 s5 s6 r : Bool, (r = true ↔ (s0 = true ∧ s1 = true ∧ s2 = true ∧ s3 = true ∧ s4 = true ∧ s5 = true ∧ s6 = false)) → (s0 = false ∧ r = false) ∨ (s0 = true ∧ s1 = false ∧ r = false) ∨ (s0 = true ∧ s1 = true ∧ s2 = false ∧ r = false) ∨ (s0 = true ∧ s1 = true ∧ s2 = true ∧ s3 = false ∧ r = false) ∨ (s0 = true ∧ s1 = true ∧ s2 = true ∧ s3 = true ∧ s4 = false ∧ r = false) ∨ (s0 = true ∧ s1 = true ∧ s2 = true ∧ s3 = true ∧ s4 = true ∧ s5 = false ∧ r = false) ∨ (s0 = true ∧ s1 = true ∧ s2 = true ∧ s3 = true ∧ s4 = true ∧ s5 = true ∧ s6 = true ∧ r = false) ∨ (s0 = true ∧ s1 = true ∧ s2 = true ∧ s3 = true ∧ s4 = true ∧ s5 = true ∧ s6 = false ∧ r = true) := by
  intro s0 s1 s2 s3 s4 s5 s6 r
  cases s0 <;> cases s1 <;> cases s2 <;> cases s3 <;> cases s4 <;> cases s5 <;> cases s6 <;> cases r <;> simp
def fineP (p q g h : Nat) (s : ByteArray) (x base y d : Nat) : Prop := s.size < 5000 ∧ goodG p q g h ∧ inG p q base ∧ inG p q y ∧ x < q ∧ d < q ∧ d ≠ 0
section
variable {p q g h x base y a b d c S : Nat} {s : ByteArray}
theorem prC_lt (h1 : 1 < q) : prC p q s x base y d < q := by unfold prC; exact chalP_lt (by omega) _ _
theorem prS_lt (h1 : 1 < q) : prS p q s x base y d < q := by unfold prS; exact Nat.mod_lt _ (by omega)
theorem prove_may (hb : inG p q base) (hy : inG p q y) (h1 : 1 < q) (hx : x < q) (hd0 : d ≠ 0) (hd : d < q) : proveOk p q x base y d := ⟨⟨hb.1, hy.1⟩, ⟨h1, hx⟩, ⟨h1, hd⟩, hd0⟩
theorem proved_ok (hb : inG p q base) (hy : inG p q y) (h1 : 1 < q) : pchkOk p q s base (powN base x p) y (powN y x p) (prC p q s x base y d) (prS p q s x base y d) := by
  refine ⟨⟨hb, in_exp (by omega) hb x, hy, in_exp (by omega) hy x⟩, ⟨h1, prC_lt h1⟩, ⟨h1, prS_lt h1⟩, ?_⟩
  unfold meetN prS
  rw [back_pow hb h1 (prC_lt h1), back_pow hy h1 (prC_lt h1)]
  rfl
attribute [local irreducible] Calls Instr.build Instr.buildSlice
theorem pw14_lit {a n r : Nat} (hp : p < B) (ha : a < B) (hn : n < B) (hr : (if mayG p a then powN a n p else 0) = r) (w : World) : Calls Try.prog 15 #[grp p q g h, num a, num n] w fun e' w' => e' = .returned (num r) ∧ Below w.heap.size w w' := by
  obtain ⟨e1, he1⟩ : ∃ e, (if mayG p a then (0 : Int) else 1) = e := ⟨_, rfl⟩
  have x1 := gexp_lit (q := q) (g := g) (h := h) hp ha hn hr he1
  clear hr he1
  have hR := Rep.init w
  go_enter Try.func15, Try.ntmps15
  go_wp2_with (first | (refine' xAe hR rfl rfl rfl ?_; clear hR; intro blk w hR) | (refine' xAb hR rfl rfl inferInstance ?_; clear hR; intro blk w hR) | (refine' xAc hR rfl rfl rfl inferInstance ?hm ?hn ?_; (case hm => first | with_reducible assumption | repeat (first | exact .head _ | with_reducible assumption | apply mC)); (case hn => first | rfl | simp)) | (refine' xAd hR rfl rfl rfl inferInstance ?hm ?hv ?hn ?_; (case hm => first | with_reducible assumption | repeat (first | exact .head _ | with_reducible assumption | apply mC)); (case hv => first | with_reducible assumption | (simp only [kC, kD, kE, kF]; try rfl)); (case hn => first | rfl | simp)) | (refine' xBg hR rfl rfl rfl inferInstance ?hm ?hv ?_; (case hm => first | with_reducible assumption | repeat (first | exact .head _ | with_reducible assumption | apply mC)); (case hv => first | rfl | with_reducible assumption)) | (refine' xAa hR rfl rfl rfl inferInstance rfl ?hs ?zone ?zvn ?hn ?_; (case hs => repeat (first | exact xAf.head | apply xAf.tail)); (case zone => first | rfl | with_reducible assumption); (case zvn => first | rfl | simp); (case hn => first | rfl | simp); clear hR; intro w hR) | (refine' xBe hR rfl rfl rfl inferInstance rfl rfl ?hs ?hn ?hl ?_; (case hs => repeat (first | exact xAf.head | apply xAf.tail)); (case hn => first | exact oD rfl | (show _ < 4; with_reducible assumption) | (simp; try omega)); (case hl => first | with_reducible assumption | (simp only [nl, kA, kB]; first | done | rfl) | rfl); clear hR; intro w hR) | (go_at_call 48; refine (x1 _).mono ?_; rintro e w ⟨rfl, hb⟩; replace hR := hR.call hb; clear hb))
  (refine' bodyPost_ret (xBt Try.results15 rfl (hR.loadAll (P := Try.prog) (ty := 24) ?hm ?hn)) rfl ⟨?_, hR.below⟩; (case hm => first | with_reducible assumption | repeat (first | exact .head _ | with_reducible assumption | apply mC)); (case hn => first | rfl | simp))
  rfl
set_option maxRecDepth 100000 in
set_option maxHeartbeats 16000000 in
theorem fine14_lit {r : Bool} {row : List Value} (hp : p < B) (hq : q < B) (hg : g < B) (hh : h < B) (hx : x < B) (hb : base < B) (hy : y < B) (hd : d < B) (hrow : row.length = 33) (ts : row[0]? = some (.string s)) (t1 : (row.drop 1).take 4 = nl x) (t5 : (row.drop 5).take 4 = nl base) (t9 : (row.drop 9).take 4 = nl y) (t21 : (row.drop 21).take 4 = nl d) (hr : r = true ↔ fineP p q g h s x base y d) (w : World) :
    Calls Try.prog 12 #[grp p q g h, .agg row.toArray] w fun e' w' => e' = .returned (.bool r) ∧ Below w.heap.size w w' := by
  classical
  have tq := gl_q p q g h
  obtain ⟨s0, e0⟩ : ∃ b, decide ((s.size : Int) < 5000) = b := ⟨_, rfl⟩
  obtain ⟨s1, e1⟩ : ∃ b, decide (goodG p q g h) = b := ⟨_, rfl⟩
  obtain ⟨s2, e2⟩ : ∃ b, decide (inG p q base) = b := ⟨_, rfl⟩
  obtain ⟨s3, e3⟩ : ∃ b, decide (inG p q y) = b := ⟨_, rfl⟩
  have cg := good_lit (s := s1) hp hq hg hh (by rw [← e1]; exact decide_eq_true_iff)
  have i1 := xCy (g := g) (h := h) (s := s2) hp hq hb (by rw [← e2]; exact decide_eq_true_iff)
  have i2 := xCy (g := g) (h := h) (s := s3) hp hq hy (by rw [← e3]; exact decide_eq_true_iff)
  have m1 := xCi hx hq rfl
  have m2 := xCi hd hq rfl
  have n1 := cmpN_lt x q
  have n2 := cmpN_lt d q
  generalize cmpN x q = z1 at *
  generalize cmpN d q = z2 at *
  obtain ⟨s4, e4⟩ : ∃ b, decide (z1 < 0) = b := ⟨_, rfl⟩
  obtain ⟨s5, e5⟩ : ∃ b, decide (z2 < 0) = b := ⟨_, rfl⟩
  obtain ⟨s6, e6⟩ : ∃ b, eqN d 0 = b := ⟨_, rfl⟩
  have hc := seven_bools s0 s1 s2 s3 s4 s5 s6 r (by
    rw [hr, ← e0, ← e1, ← e2, ← e3, ← e4, ← e5]
    simp only [decide_eq_true_eq]
    unfold fineP
    rw [n1, n2]
    have k : s6 = false ↔ d ≠ 0 := by
      rw [← e6]
      exact ⟨fun h h' => (by rw [eqN_yes h'] at h; cases h), fun h => eqN_no hd B_pos h⟩
    rw [k]
    constructor
    · rintro ⟨a1, a2, a3, a4, a5, a6, a7⟩
      exact ⟨by omega, a2, a3, a4, a5, a6, a7⟩
    · rintro ⟨a1, a2, a3, a4, a5, a6, a7⟩
      exact ⟨by omega, a2, a3, a4, a5, a6, a7⟩)
  clear hr n1 n2 e1 e2 e3
  have hR := Rep.init w
  rcases hc with ⟨rfl, rfl⟩ | ⟨rfl, rfl, rfl⟩ | ⟨rfl, rfl, rfl, rfl⟩ | ⟨rfl, rfl, rfl, rfl, rfl⟩ | ⟨rfl, rfl, rfl, rfl, rfl, rfl⟩ | ⟨rfl, rfl, rfl, rfl, rfl, rfl, rfl⟩ | ⟨rfl, rfl, rfl, rfl, rfl, rfl, rfl, rfl⟩ | ⟨rfl, rfl, rfl, rfl, rfl, rfl, rfl, rfl⟩
  all_goals
    go_enter Try.func12, Try.ntmps12
    go_wp2_with (first | go_skip | (refine' xAe hR rfl rfl rfl ?_; clear hR; intro blk w hR) | (refine' xAb hR rfl rfl inferInstance ?_; clear hR; intro blk w hR) | (refine' xAc hR rfl rfl rfl inferInstance ?hm ?hn ?_; (case hm => first | with_reducible assumption | repeat (first | exact .head _ | with_reducible assumption | apply mC)); (case hn => first | rfl | simp)) | (refine' xAd hR rfl rfl rfl inferInstance ?hm ?hv ?hn ?_; (case hm => first | with_reducible assumption | repeat (first | exact .head _ | with_reducible assumption | apply mC)); (case hv => first | with_reducible assumption | (simp only [kC, kD, kE, kF]; try rfl)); (case hn => first | rfl | simp)) | (refine' xBg hR rfl rfl rfl inferInstance ?hm ?hv ?_; (case hm => first | with_reducible assumption | repeat (first | exact .head _ | with_reducible assumption | apply mC)); (case hv => first | rfl | with_reducible assumption)) | (refine' xAa hR rfl rfl rfl inferInstance rfl ?hs ?zone ?zvn ?hn ?_; (case hs => repeat (first | exact xAf.head | apply xAf.tail)); (case zone => first | rfl | with_reducible assumption); (case zvn => first | rfl | simp); (case hn => first | rfl | simp); clear hR; intro w hR) | (refine' xBe hR rfl rfl rfl inferInstance rfl rfl ?hs ?hn ?hl ?_; (case hs => repeat (first | exact xAf.head | apply xAf.tail)); (case hn => first | exact oD rfl | (show _ < 4; with_reducible assumption) | (simp; try omega)); (case hl => first | with_reducible assumption | (simp only [nl, kA, kB]; first | done | rfl) | rfl); clear hR; intro w hR) | (refine' xAg hR rfl rfl rfl inferInstance ?hm ?hn ?_; (case hm => first | with_reducible assumption | repeat (first | exact .head _ | with_reducible assumption | apply mC)); (case hn => first | rfl | simp)) | (refine' xBf hR rfl rfl rfl inferInstance ?hm ?hv ?_; (case hm => first | with_reducible assumption | repeat (first | exact .head _ | with_reducible assumption | apply mC)); (case hv => first | rfl | with_reducible assumption)) | (refine' xAp hR rfl rfl rfl inferInstance ?hm ?hv ?hn ?_; (case hm => first | with_reducible assumption | repeat (first | exact .head _ | with_reducible assumption | apply mC)); (case hv => first | with_reducible assumption | (simp only [kC, kD, kE, kF]; try rfl)); (case hn => first | rfl | simp)) | (go_at_call 46; refine (cg _).mono ?_; rintro e w ⟨rfl, hb⟩; replace hR := hR.call hb; clear hb) | (go_at_call 18; refine (i1 _).mono ?_; rintro e w ⟨rfl, hb⟩; replace hR := hR.call hb; clear hb) | (go_at_call 18; refine (i2 _).mono ?_; rintro e w ⟨rfl, hb⟩; replace hR := hR.call hb; clear hb) | (go_at_call 13; refine (m1 _).mono ?_; rintro e w ⟨rfl, hb⟩; replace hR := hR.call hb; clear hb) | (go_at_call 13; refine (m2 _).mono ?_; rintro e w ⟨rfl, hb⟩; replace hR := hR.call hb; clear hb))
    go_ret
    exact ⟨rfl, hR.below⟩
end
end Go.Proofs.Ythbcgcncoggagaa
