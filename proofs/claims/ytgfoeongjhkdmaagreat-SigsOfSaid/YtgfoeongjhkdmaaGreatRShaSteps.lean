/- The contracts of shas.steps, begin, New. -/
import Derived.Test.YtgfoeongjhkdmaaGreatRB
set_option linter.unusedVariables false
set_option linter.unusedSimpArgs false
namespace Go.Proofs.YtgfoeongjhkdmaaGreat
open Go.RowKit
attribute [local irreducible] Calls
noncomputable def stepF : Nat → Nat := opq fun i => steps.getD i 0
theorem stepF_def (i : Nat) : stepF i = steps.getD i 0 := by unfold stepF; rw [xCe]
theorem stepF_lt (i : Nat) : stepF i < 4294967296 := by rw [stepF_def]; exact steps_lt i
set_option maxRecDepth 100000 in
set_option maxHeartbeats 4000000 in
theorem steps_any (w : World) : Calls Tryz.prog 116 #[] w fun e w' => e = .returned (.agg (u32s 64 stepF).toArray) ∧ Below w.heap.size w w' := by
  have hR := Rep.init w
  go_enter Tryz.func116, Tryz.ntmps116
  go_wp2_with (first | (refine' xAb hR rfl rfl rfl ?_; clear hR; intro blk w hR) | (refine' xAa hR rfl rfl inferInstance ?_; clear hR; intro blk w hR) | (refine' aAq hR rfl rfl rfl inferInstance ?_) | (refine' aBq hR rfl rfl rfl inferInstance ?_) | (refine' aCq hR rfl rfl rfl inferInstance ?_) | (refine' aDq hR rfl rfl rfl inferInstance rfl ?_; clear hR; intro w hR) | (refine' aEq hR rfl rfl rfl inferInstance rfl rfl ?_; clear hR; intro w hR) | fail)
  (refine' bodyPost_ret (xBq Tryz.results116 rfl (hR.loadAll (P := Tryz.prog) (ty := 128) ?hm ?hn)) rfl ⟨?_, hR.below⟩; (case hm => first | with_reducible assumption | repeat (first | exact .head _ | apply mT)); (case hn => first | rfl | simp))
  rw [u32s_def]
  have e : stepF = fun i => steps.getD i 0 := funext stepF_def
  rw [e]
  rfl
set_option maxRecDepth 100000 in
set_option maxHeartbeats 1000000 in
theorem begin_any (w : World) : Calls Tryz.prog 104 #[] w fun e w' => e = .returned (.agg (s8L beginN).toArray) ∧ Below w.heap.size w w' := by
  have hR := Rep.init w
  go_enter Tryz.func104, Tryz.ntmps104
  go_wp2_with (first | (refine' xAb hR rfl rfl rfl ?_; clear hR; intro blk w hR) | (refine' xAa hR rfl rfl inferInstance ?_; clear hR; intro blk w hR) | (refine' aAq hR rfl rfl rfl inferInstance ?_) | (refine' aBq hR rfl rfl rfl inferInstance ?_) | (refine' aCq hR rfl rfl rfl inferInstance ?_) | (refine' aDq hR rfl rfl rfl inferInstance rfl ?_; clear hR; intro w hR) | (refine' aEq hR rfl rfl rfl inferInstance rfl rfl ?_; clear hR; intro w hR) | fail)
  (refine' bodyPost_ret (xBq Tryz.results104 rfl (hR.loadAll (P := Tryz.prog) (ty := 112) ?hm ?hn)) rfl ⟨?_, hR.below⟩; (case hm => first | with_reducible assumption | repeat (first | exact .head _ | apply mT)); (case hn => first | rfl | simp))
  rfl
end Go.Proofs.YtgfoeongjhkdmaaGreat
