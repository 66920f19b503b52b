/- The contract of sigs.Sign. -/
import Derived.Test.YtgfoeongjhkdmaaGreatRGA
set_option linter.unusedVariables false
set_option linter.unusedSimpArgs false
namespace Go.Proofs.YtgfoeongjhkdmaaGreat
open Go.RowKit
noncomputable abbrev sigV (c s : Nat) : Value := .agg (nl2 c s).toArray
instance rowSig : RowT Tryz.prog 30 8 := .mk' (by kernel_rfl) (by kernel_rfl)
instance zeroSig : ZeroT Tryz.prog 30 [.int .u64 0, .int .u64 0, .int .u64 0, .int .u64 0, .int .u64 0, .int .u64 0, .int .u64 0, .int .u64 0] := ⟨.agg #[.int .u64 0, .int .u64 0, .int .u64 0, .int .u64 0, .int .u64 0, .int .u64 0, .int .u64 0, .int .u64 0], by kernel_rfl, rfl⟩
theorem build_sig (c s : Nat) (w : World) : (Instr.build 30 #[(0, .agg (nl c).toArray), (1, .agg (nl s).toArray)]).run Tryz.prog w = .ok (sigV c s) w := by
  unfold sigV nl nl2
  kernel_rfl
theorem nl2_zero : [Value.int .u64 0, .int .u64 0, .int .u64 0, .int .u64 0, .int .u64 0, .int .u64 0, .int .u64 0, .int .u64 0] = nl2 0 0 := by unfold nl2; simp [wd_def]
theorem build_sig0 (w : World) : (Instr.build 30 #[]).run Tryz.prog w = .ok (sigV 0 0) w := by
  unfold sigV
  rw [← nl2_zero]
  kernel_rfl
theorem wpList_twoG {P : Program} {ops : Array Oper} {rest : List Oper} {o : Oper} {a : Act} {w w0 : World} {Q : Exit → Act → World → Prop} {B0 : Nat} {L : List (Nat × Obj)} (hR : Rep B0 w0 L w) (hw : Region.wanted o (yielded ops a.tmps) = true) {ty el : TypeId} {x y : Operand} (hop : o.op = .buildSlice ty 2 #[(0, x), (1, y)]) {v u : Value} {l : List Value} (hx : ev a x = some v) (hy : ev a y = some u)
    (hrun : ∀ w, (Instr.buildSlice ty 2 #[(0, v), (1, u)]).run P w = .ok (.slice (some ⟨w.heap.size, 0, none⟩) 2 2) (w.alloc (.cells l.toArray el)))
    (h : ∀ b w', Rep B0 w0 ((b, .cells l.toArray el) :: L) w' → wpList P ops Q rest (a.put o.dst (.slice (some ⟨b, 0, none⟩) 2 2)) w') : wpList P ops Q (o :: rest) a w :=
  wpList_wanted hw fun _ hK => by
    have hx := xBt hx
    have hy := xBt hy
    unfold Oper.wp execOp
    simp only [hop, List.map_toArray, List.map_cons, List.map_nil, hx, hy, hrun, Sem.run_bind, Result.andThen_ok, Sem.run_pure]
    exact hK _ _ (h _ _ (hR.alloc _))
attribute [local irreducible] Calls Instr.build Instr.buildSlice
def signOk (p q g s d : Nat) : Prop := mayG p g ∧ s ≠ 0 ∧ d ≠ 0 ∧ okX q s d
section
variable {p q g h s d : Nat} {H : Nat → Nat}
set_option maxRecDepth 100000 in
set_option maxHeartbeats 8000000 in
theorem sign_no (hp : p < B) (hq : q < B) (hg : g < B) (hs : s < B) (hd : d < B) (hno : ¬ signOk p q g s d) (w : World) : Calls Tryz.prog 4 #[grp p q g h, num s, .agg (u8s 32 H).toArray, num d] w fun e' w' =>
    e' = .returned (.tuple #[sigV 0 0, .int .i64 1]) ∧ Below w.heap.size w w' := by
  have tg := gl_g p q g h
  have bs := fun w => build_sig0 w
  obtain ⟨ke, hke⟩ : ∃ e, (if mayG p g then (0 : Int) else 1) = e := ⟨_, rfl⟩
  have x1 := gexp_lit (q := q) (g := g) (h := h) (p := p) hp hg hs rfl hke
  generalize (if mayG p g then powN g s p else 0) = key at *
  obtain ⟨b, hb⟩ : ∃ b, decide (okX q s d) = b := ⟨_, rfl⟩
  have cx := fun (b0 : Nat) (L : List (Nat × Obj)) (w' : World) (hm : (b0, Obj.cells (nl2 s d).toArray 24) ∈ L) (hR : Rep w.heap.size w L w') => exps_lit (p := p) (g := g) (h := h) hq hs hd hb hm hR
  have hc : ke = 1 ∨ (ke = 0 ∧ eqN s 0 = true) ∨ (ke = 0 ∧ eqN s 0 = false ∧ eqN d 0 = true) ∨ (ke = 0 ∧ eqN s 0 = false ∧ eqN d 0 = false ∧ b = false) := by
    by_cases h1 : mayG p g
    · rw [if_pos h1] at hke
      by_cases h2 : s = 0
      · exact .inr (.inl ⟨hke.symm, eqN_yes h2⟩)
      · by_cases h3 : d = 0
        · exact .inr (.inr (.inl ⟨hke.symm, xDl hs B_pos h2, eqN_yes h3⟩))
        · exact .inr (.inr (.inr ⟨hke.symm, xDl hs B_pos h2, xDl hd B_pos h3, by rw [← hb]; exact decide_eq_false fun h4 => hno ⟨h1, h2, h3, h4⟩⟩))
    · rw [if_neg h1] at hke
      exact .inl hke.symm
  clear hno hke hb
  have hR := Rep.init w
  rcases hc with rfl | ⟨rfl, j1⟩ | ⟨rfl, j1, j2⟩ | ⟨rfl, j1, j2, rfl⟩
  · go_enter Tryz.func4, Tryz.ntmps4
    go_wp2_with (first | go_skip | (refine' xAb hR rfl rfl rfl ?_; clear hR; intro blk w hR) | (refine' xAa hR rfl rfl inferInstance ?_; clear hR; intro blk w hR) | (refine' aFq hR rfl rfl rfl inferInstance ?_) | (refine' aGq hR rfl rfl rfl inferInstance ?_) | (refine' aHq hR rfl rfl rfl inferInstance ?_) | (refine' aDq hR rfl rfl rfl inferInstance rfl ?_; clear hR; intro w hR) | (refine' aEq hR rfl rfl rfl inferInstance rfl rfl ?_; clear hR; intro w hR) | (refine' xAy hR rfl rfl rfl inferInstance ?hm ?hn ?_; (case hm => first | with_reducible assumption | repeat (first | exact .head _ | with_reducible assumption | apply mC)); (case hn => first | rfl | simp)) | (refine' xAt hR rfl rfl rfl inferInstance ?hm ?hv ?_; (case hm => first | with_reducible assumption | repeat (first | exact .head _ | with_reducible assumption | apply mC)); (case hv => first | rfl | with_reducible assumption)) | (refine' xBh hR rfl rfl rfl inferInstance ?hm ?hv ?hn ?_; (case hm => first | with_reducible assumption | repeat (first | exact .head _ | with_reducible assumption | apply mC)); (case hv => first | with_reducible assumption | (simp only [kC, kD, kE, kF]; try rfl)); (case hn => first | rfl | simp)) | (go_at_call 8; refine (x1 _).mono ?_; rintro e w ⟨rfl, hb⟩; replace hR := hR.call hb; clear hb))
    (refine' bodyPost_ret (xAz Tryz.results4 rfl (hR.loadAll (P := Tryz.prog) (ty := 30) ?hm ?hn)) rfl ⟨?_, hR.below⟩; (case hm => first | with_reducible assumption | repeat (first | exact .head _ | with_reducible assumption | apply mC)); (case hn => first | rfl | simp))
    unfold sigV
    rw [← nl2_zero]
    rfl
  · go_enter Tryz.func4, Tryz.ntmps4
    go_wp2_with (first | go_skip | (refine' xAb hR rfl rfl rfl ?_; clear hR; intro blk w hR) | (refine' xAa hR rfl rfl inferInstance ?_; clear hR; intro blk w hR) | (refine' aFq hR rfl rfl rfl inferInstance ?_) | (refine' aGq hR rfl rfl rfl inferInstance ?_) | (refine' aHq hR rfl rfl rfl inferInstance ?_) | (refine' aDq hR rfl rfl rfl inferInstance rfl ?_; clear hR; intro w hR) | (refine' aEq hR rfl rfl rfl inferInstance rfl rfl ?_; clear hR; intro w hR) | (refine' xAy hR rfl rfl rfl inferInstance ?hm ?hn ?_; (case hm => first | with_reducible assumption | repeat (first | exact .head _ | with_reducible assumption | apply mC)); (case hn => first | rfl | simp)) | (refine' xAt hR rfl rfl rfl inferInstance ?hm ?hv ?_; (case hm => first | with_reducible assumption | repeat (first | exact .head _ | with_reducible assumption | apply mC)); (case hv => first | rfl | with_reducible assumption)) | (refine' xBh hR rfl rfl rfl inferInstance ?hm ?hv ?hn ?_; (case hm => first | with_reducible assumption | repeat (first | exact .head _ | with_reducible assumption | apply mC)); (case hv => first | with_reducible assumption | (simp only [kC, kD, kE, kF]; try rfl)); (case hn => first | rfl | simp)) | (go_at_call 8; refine (x1 _).mono ?_; rintro e w ⟨rfl, hb⟩; replace hR := hR.call hb; clear hb))
    (refine' bodyPost_ret (xAz Tryz.results4 rfl (hR.loadAll (P := Tryz.prog) (ty := 30) ?hm ?hn)) rfl ⟨?_, hR.below⟩; (case hm => first | with_reducible assumption | repeat (first | exact .head _ | with_reducible assumption | apply mC)); (case hn => first | rfl | simp))
    unfold sigV
    rw [← nl2_zero]
    rfl
  · go_enter Tryz.func4, Tryz.ntmps4
    go_wp2_with (first | go_skip | (refine' xAb hR rfl rfl rfl ?_; clear hR; intro blk w hR) | (refine' xAa hR rfl rfl inferInstance ?_; clear hR; intro blk w hR) | (refine' aFq hR rfl rfl rfl inferInstance ?_) | (refine' aGq hR rfl rfl rfl inferInstance ?_) | (refine' aHq hR rfl rfl rfl inferInstance ?_) | (refine' aDq hR rfl rfl rfl inferInstance rfl ?_; clear hR; intro w hR) | (refine' aEq hR rfl rfl rfl inferInstance rfl rfl ?_; clear hR; intro w hR) | (refine' xAy hR rfl rfl rfl inferInstance ?hm ?hn ?_; (case hm => first | with_reducible assumption | repeat (first | exact .head _ | with_reducible assumption | apply mC)); (case hn => first | rfl | simp)) | (refine' xAt hR rfl rfl rfl inferInstance ?hm ?hv ?_; (case hm => first | with_reducible assumption | repeat (first | exact .head _ | with_reducible assumption | apply mC)); (case hv => first | rfl | with_reducible assumption)) | (refine' xBh hR rfl rfl rfl inferInstance ?hm ?hv ?hn ?_; (case hm => first | with_reducible assumption | repeat (first | exact .head _ | with_reducible assumption | apply mC)); (case hv => first | with_reducible assumption | (simp only [kC, kD, kE, kF]; try rfl)); (case hn => first | rfl | simp)) | (go_at_call 8; refine (x1 _).mono ?_; rintro e w ⟨rfl, hb⟩; replace hR := hR.call hb; clear hb))
    (refine' bodyPost_ret (xAz Tryz.results4 rfl (hR.loadAll (P := Tryz.prog) (ty := 30) ?hm ?hn)) rfl ⟨?_, hR.below⟩; (case hm => first | with_reducible assumption | repeat (first | exact .head _ | with_reducible assumption | apply mC)); (case hn => first | rfl | simp))
    unfold sigV
    rw [← nl2_zero]
    rfl
  · go_enter Tryz.func4, Tryz.ntmps4
    go_wp2_with (first | go_skip | (refine' xAb hR rfl rfl rfl ?_; clear hR; intro blk w hR) | (refine' xAa hR rfl rfl inferInstance ?_; clear hR; intro blk w hR) | (refine' aFq hR rfl rfl rfl inferInstance ?_) | (refine' aGq hR rfl rfl rfl inferInstance ?_) | (refine' aHq hR rfl rfl rfl inferInstance ?_) | (refine' aDq hR rfl rfl rfl inferInstance rfl ?_; clear hR; intro w hR) | (refine' aEq hR rfl rfl rfl inferInstance rfl rfl ?_; clear hR; intro w hR) | (refine' xAy hR rfl rfl rfl inferInstance ?hm ?hn ?_; (case hm => first | with_reducible assumption | repeat (first | exact .head _ | with_reducible assumption | apply mC)); (case hn => first | rfl | simp)) | (refine' xAt hR rfl rfl rfl inferInstance ?hm ?hv ?_; (case hm => first | with_reducible assumption | repeat (first | exact .head _ | with_reducible assumption | apply mC)); (case hv => first | rfl | with_reducible assumption)) | (refine' xBh hR rfl rfl rfl inferInstance ?hm ?hv ?hn ?_; (case hm => first | with_reducible assumption | repeat (first | exact .head _ | with_reducible assumption | apply mC)); (case hv => first | with_reducible assumption | (simp only [kC, kD, kE, kF]; try rfl)); (case hn => first | rfl | simp)) | (go_at_call 8; refine (x1 _).mono ?_; rintro e w ⟨rfl, hb⟩; replace hR := hR.call hb; clear hb) | (refine' wpList_twoG hR rfl rfl rfl rfl (build_nums2 _ _) ?_; clear hR; intro bt w hR) | (go_at_call 9; refine (cx _ _ _ (.head _) hR).mono ?_; clear hR; rintro e w ⟨rfl, hR⟩))
    (refine' bodyPost_ret (xAz Tryz.results4 rfl (hR.loadAll (P := Tryz.prog) (ty := 30) ?hm ?hn)) rfl ⟨?_, hR.below⟩; (case hm => first | with_reducible assumption | repeat (first | exact .head _ | with_reducible assumption | apply mC)); (case hn => first | rfl | simp))
    unfold sigV
    rw [← nl2_zero]
    rfl
end
end Go.Proofs.YtgfoeongjhkdmaaGreat
