/- The walk of balefirelaw04.ModsOf. -/
import Derived.Test.YtdmdkdodfngjiaaRefInv
import Derived.Test.YtdmdkdodfngjiaaLaw04
set_option linter.unusedSimpArgs false
set_option linter.unusedVariables false
namespace Go.Proofs.Ytdmdkdodfngjiaa
open Go.RowKit
attribute [local irreducible] Calls

set_option maxRecDepth 100000 in
set_option maxHeartbeats 8000000 in
theorem modsof_walk (a b m : Nat) (ha : a < B) (hb : b < B) (hm : m < B) (w : World) : Calls Try.prog 4 #[num a, num b, num m] w fun e w' =>
    e = .returned (.bool true) ∧ Below w.heap.size w w' := by
  have es := eqN_self
  have a1 := madd_lit ha hb hm rfl rfl
  have a2 := fun w => ref04_add a b m ha hb hm w
  have s1 := msub_lit ha hb hm rfl rfl
  have s2 := fun w => ref04_sub a b m ha hb hm w
  have m1 := mmul_lit ha hb hm rfl rfl
  have m2 := fun w => ref04_mul a b m ha hb hm w
  have i1 := minv_lit ha hm rfl rfl
  have i2 := fun w => ref04_inv a m ha hm w
  have x1 := mexp_lit ha hb hm rfl rfl
  have x2 := fun w => ref04_exp a b m ha hb hm w
  generalize (if okM a b m then (a + b) % m else 0) = r1 at *
  generalize (if okM a b m then subN a b m else 0) = r2 at *
  generalize (if okM a b m then mulN a b m else 0) = r3 at *
  generalize (if okE a m then invM a m else 0) = r4 at *
  generalize (if okE a m then powN a b m else 0) = r5 at *
  generalize (if okM a b m then (0 : Int) else 1) = e1 at *
  generalize (if okE a m then (0 : Int) else 1) = e3 at *
  generalize invE a m = e2 at *
  have hR := Rep.init w
  go_enter Try.func4, Try.ntmps4
  go_wp2_with (first | (refine' wpList_boxRep hR rfl rfl rfl ?_; clear hR; intro blk w hR) | (refine' wpList_allocRep hR rfl rfl inferInstance ?_; clear hR; intro blk w hR) | (refine' wpList_loadAll hR rfl rfl rfl inferInstance ?hm ?hn ?_; (case hm => first | with_reducible assumption | repeat (first | exact .head _ | apply List.Mem.tail)); (case hn => first | rfl | (simp; done))) | (refine' wpList_loadRow hR rfl rfl rfl inferInstance ?hm ?hv ?hn ?_; (case hm => first | with_reducible assumption | repeat (first | exact .head _ | apply List.Mem.tail)); (case hv => first | with_reducible assumption | (simp only [kC, kD, kE, kF]; first | done | rfl)); (case hn => first | rfl | (simp; done))) | (refine' wpList_loadCell hR rfl rfl rfl inferInstance ?hm ?hv ?_; (case hm => first | with_reducible assumption | repeat (first | exact .head _ | apply List.Mem.tail)); (case hv => first | rfl | with_reducible assumption)) | (refine' wpList_storeAll hR rfl rfl rfl inferInstance rfl ?hs ?zone ?zvn ?hn ?_; (case hs => repeat (first | exact SetAt.head | apply SetAt.tail)); (case zone => first | rfl | with_reducible assumption); (case zvn => first | rfl | (simp; done)); (case hn => first | rfl | (simp; done)); clear hR; intro w hR) | (refine' wpList_storeCell hR rfl rfl rfl inferInstance rfl rfl ?hs ?hn ?hl ?_; (case hs => repeat (first | exact SetAt.head | apply SetAt.tail)); (case hn => first | exact of_decide_eq_true rfl | (show _ < 4; with_reducible assumption) | (simp; first | done | omega)); (case hl => first | with_reducible assumption | (simp only [nl, kA, kB]; first | done | rfl) | rfl); clear hR; intro w hR) | (refine' wpList_loadAllG hR rfl rfl rfl inferInstance ?hm ?hn ?_; (case hm => first | with_reducible assumption | repeat (first | exact .head _ | apply List.Mem.tail)); (case hn => first | rfl | (simp; done))) | (refine' wpList_loadCellG hR rfl rfl rfl inferInstance ?hm ?hv ?_; (case hm => first | with_reducible assumption | repeat (first | exact .head _ | apply List.Mem.tail)); (case hv => first | rfl | with_reducible assumption)) | (go_at_call 23; refine (a1 _).mono ?_; rintro e w ⟨rfl, hb⟩; replace hR := hR.call hb; clear hb) | (go_at_call 28; refine (a2 _).mono ?_; rintro e w ⟨rfl, hb⟩; replace hR := hR.call hb; clear hb) | (go_at_call 24; refine (s1 _).mono ?_; rintro e w ⟨rfl, hb⟩; replace hR := hR.call hb; clear hb) | (go_at_call 29; refine (s2 _).mono ?_; rintro e w ⟨rfl, hb⟩; replace hR := hR.call hb; clear hb) | (go_at_call 25; refine (m1 _).mono ?_; rintro e w ⟨rfl, hb⟩; replace hR := hR.call hb; clear hb) | (go_at_call 30; refine (m2 _).mono ?_; rintro e w ⟨rfl, hb⟩; replace hR := hR.call hb; clear hb) | (go_at_call 26; refine (x1 _).mono ?_; rintro e w ⟨rfl, hb⟩; replace hR := hR.call hb; clear hb) | (go_at_call 31; refine (x2 _).mono ?_; rintro e w ⟨rfl, hb⟩; replace hR := hR.call hb; clear hb) | (go_at_call 27; refine (i1 _).mono ?_; rintro e w ⟨rfl, hb⟩; replace hR := hR.call hb; clear hb) | (go_at_call 32; refine (i2 _).mono ?_; rintro e w ⟨rfl, hb⟩; replace hR := hR.call hb; clear hb))
  go_ret
  exact ⟨rfl, hR.below⟩
end Go.Proofs.Ytdmdkdodfngjiaa
