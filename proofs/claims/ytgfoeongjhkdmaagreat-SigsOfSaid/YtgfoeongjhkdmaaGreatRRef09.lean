/- The contracts of balefireref09. -/
import Derived.Test.YtgfoeongjhkdmaaGreatRR4
import Derived.Test.YtgfoeongjhkdmaaGreatRScalOf
set_option linter.unusedVariables false
set_option linter.unusedSimpArgs false
namespace Go.Proofs.YtgfoeongjhkdmaaGreat
open Go.RowKit
attribute [local irreducible] Calls
section
variable {p q g h a b r : Nat}
set_option maxRecDepth 100000 in
set_option maxHeartbeats 1000000 in
theorem rsadd_any (ha : a < B) (hb : b < B) (hq : q < B) (w : World) : Calls Tryz.prog 18 #[grp p q g h, num a, num b] w fun e' w' =>
    e' = .returned (.tuple #[num (if okM a b q then (a + b) % q else 0), .int .i64 (if okM a b q then 0 else 1)]) ∧ Below w.heap.size w w' := by
  have c1 := fun w => ref04_add a b q ha hb hq w
  generalize (if okM a b q then (a + b) % q else 0) = r at *
  generalize (if okM a b q then (0 : Int) else 1) = e at *
  have tq := gl_q p q g h
  have hR := Rep.init w
  go_enter Tryz.func18, Tryz.ntmps18
  go_wp2_with (first | (refine' xAb hR rfl rfl rfl ?_; clear hR; intro blk w hR) | (refine' xAa hR rfl rfl inferInstance ?_; clear hR; intro blk w hR) | (refine' aAq hR rfl rfl rfl inferInstance ?_) | (refine' aBq hR rfl rfl rfl inferInstance ?_) | (refine' aCq hR rfl rfl rfl inferInstance ?_) | (refine' aDq hR rfl rfl rfl inferInstance rfl ?_; clear hR; intro w hR) | (refine' aEq hR rfl rfl rfl inferInstance rfl rfl ?_; clear hR; intro w hR) | (go_at_call 38; refine (c1 _).mono ?_; rintro e w ⟨rfl, hb⟩; replace hR := hR.call hb; clear hb))
  (refine' bodyPost_ret (xAz Tryz.results18 rfl (hR.loadAll (P := Tryz.prog) (ty := 24) ?hm ?hn)) rfl ⟨?_, hR.below⟩; (case hm => first | with_reducible assumption | repeat (first | exact .head _ | apply mT)); (case hn => first | rfl | simp))
  rfl
set_option maxRecDepth 100000 in
set_option maxHeartbeats 1000000 in
theorem rssub_any (ha : a < B) (hb : b < B) (hq : q < B) (w : World) : Calls Tryz.prog 23 #[grp p q g h, num a, num b] w fun e' w' =>
    e' = .returned (.tuple #[num (if okM a b q then subN a b q else 0), .int .i64 (if okM a b q then 0 else 1)]) ∧ Below w.heap.size w w' := by
  have c1 := fun w => ref04_sub a b q ha hb hq w
  generalize (if okM a b q then subN a b q else 0) = r at *
  generalize (if okM a b q then (0 : Int) else 1) = e at *
  have tq := gl_q p q g h
  have hR := Rep.init w
  go_enter Tryz.func23, Tryz.ntmps23
  go_wp2_with (first | (refine' xAb hR rfl rfl rfl ?_; clear hR; intro blk w hR) | (refine' xAa hR rfl rfl inferInstance ?_; clear hR; intro blk w hR) | (refine' aAq hR rfl rfl rfl inferInstance ?_) | (refine' aBq hR rfl rfl rfl inferInstance ?_) | (refine' aCq hR rfl rfl rfl inferInstance ?_) | (refine' aDq hR rfl rfl rfl inferInstance rfl ?_; clear hR; intro w hR) | (refine' aEq hR rfl rfl rfl inferInstance rfl rfl ?_; clear hR; intro w hR) | (go_at_call 44; refine (c1 _).mono ?_; rintro e w ⟨rfl, hb⟩; replace hR := hR.call hb; clear hb))
  (refine' bodyPost_ret (xAz Tryz.results23 rfl (hR.loadAll (P := Tryz.prog) (ty := 24) ?hm ?hn)) rfl ⟨?_, hR.below⟩; (case hm => first | with_reducible assumption | repeat (first | exact .head _ | apply mT)); (case hn => first | rfl | simp))
  rfl
set_option maxRecDepth 100000 in
set_option maxHeartbeats 1000000 in
theorem rsmul_any (ha : a < B) (hb : b < B) (hq : q < B) (w : World) : Calls Tryz.prog 17 #[grp p q g h, num a, num b] w fun e' w' =>
    e' = .returned (.tuple #[num (if okM a b q then mulN a b q else 0), .int .i64 (if okM a b q then 0 else 1)]) ∧ Below w.heap.size w w' := by
  have c1 := fun w => ref04_mul a b q ha hb hq w
  generalize (if okM a b q then mulN a b q else 0) = r at *
  generalize (if okM a b q then (0 : Int) else 1) = e at *
  have tq := gl_q p q g h
  have hR := Rep.init w
  go_enter Tryz.func17, Tryz.ntmps17
  go_wp2_with (first | (refine' xAb hR rfl rfl rfl ?_; clear hR; intro blk w hR) | (refine' xAa hR rfl rfl inferInstance ?_; clear hR; intro blk w hR) | (refine' aAq hR rfl rfl rfl inferInstance ?_) | (refine' aBq hR rfl rfl rfl inferInstance ?_) | (refine' aCq hR rfl rfl rfl inferInstance ?_) | (refine' aDq hR rfl rfl rfl inferInstance rfl ?_; clear hR; intro w hR) | (refine' aEq hR rfl rfl rfl inferInstance rfl rfl ?_; clear hR; intro w hR) | (go_at_call 37; refine (c1 _).mono ?_; rintro e w ⟨rfl, hb⟩; replace hR := hR.call hb; clear hb))
  (refine' bodyPost_ret (xAz Tryz.results17 rfl (hR.loadAll (P := Tryz.prog) (ty := 24) ?hm ?hn)) rfl ⟨?_, hR.below⟩; (case hm => first | with_reducible assumption | repeat (first | exact .head _ | apply mT)); (case hn => first | rfl | simp))
  rfl
end
end Go.Proofs.YtgfoeongjhkdmaaGreat
