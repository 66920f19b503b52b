/- balefirelaw10.alive says yes. -/
import Derived.Test.YtgfoeongjhkdmaaJQ
set_option linter.unusedVariables false
set_option linter.unusedSimpArgs false
namespace Go.Proofs.Ytgfoeongjhkdmaa
open Go.RowKit
attribute [local irreducible] Calls Instr.build Instr.buildSlice
theorem NOwn.congr {cap n : Nat} {cur : List Value} {f f' : Nat → Nat} (h : NOwn cap cur n f) (he : ∀ j, j < n → f j = f' j) : NOwn cap cur n f' := ⟨h.le, h.big, h.len, by rw [h.is, xCe he]⟩
section
variable {B0 : Nat} {w0 w : World} {L : List (Nat × Obj)}
theorem lt11 : 11 < B := lt_B (by decide)
theorem lt0B : 0 < B := B_pos
theorem al_at {g cap : Nat} {cur : List Value} (ho : NOwn cap cur 3 (nF [1, 2, 3])) (hm : (g, Obj.cells cur.toArray 24) ∈ L) (hR : Rep B0 w0 L w) : Calls Try.prog 10 #[grp 0 11 0 0, .slice (some ⟨g, 0, none⟩) 3 cap, num 2] w fun e w' => e = .returned (.tuple #[num 6, .int .i64 0]) ∧ Rep B0 w0 L w' := by
  have := at_yes (g := 0) (h := 0) lt0B lt11 (by decide) (ho.at (B0 := B0) (w0 := w0) hm (Nat.le_refl _) (nF_all rfl fun x hx => Nat.lt_trans ((by decide : ∀ x ∈ [1, 2, 3], x < 11) x hx) lt11)) (lit_ok rfl (by decide) (by decide) (by decide) : okA 11 3 (nF [1, 2, 3]) 2) hR
  rw [at_123] at this
  exact this
theorem al_atn (hR : Rep B0 w0 L w) : Calls Try.prog 10 #[grp 0 11 0 0, .slice none 0 0, num 5] w fun e w' => e = .returned (.tuple #[.agg #[.int .u64 0, .int .u64 0, .int .u64 0, .int .u64 0], .int .i64 0]) ∧ Rep B0 w0 L w' := by
  have := at_yes (g := 0) (h := 0) lt0B lt11 (by decide) (nAt_nil (B0 := B0) (w0 := w0) (L := L) (nF [])) (lit_ok rfl (by decide) (by decide) (by decide) : okA 11 0 (nF []) 5) hR
  rw [at_nil, z_num] at this
  exact this
theorem al_wt {g cap : Nat} {cur : List Value} (ho : NOwn cap cur 2 (nF [1, 2])) (hm : (g, Obj.cells cur.toArray 24) ∈ L) (hR : Rep B0 w0 L w) : Calls Try.prog 16 #[grp 0 11 0 0, .slice (some ⟨g, 0, none⟩) 2 cap, .agg #[.int .u64 0, .int .u64 0, .int .u64 0, .int .u64 0]] w fun e w' => ∃ gb, e = .returned (.tuple #[.slice (some ⟨gb, 0, none⟩) 2 2, .int .i64 0]) ∧ ∃ cur : List Value, NOwn 2 cur 2 (nF [2, 10]) ∧ Rep B0 w0 ((gb, .cells cur.toArray 24) :: L) w' := by
  have := weights_yes (g := 0) (h := 0) lt0B lt11 (by decide) (ho.at (B0 := B0) (w0 := w0) hm (Nat.le_refl _) (nF_all rfl fun x hx => Nat.lt_trans ((by decide : ∀ x ∈ [1, 2], x < 11) x hx) lt11)) (⟨lit_pts rfl (by decide) (by decide) (by decide) (by decide), by decide⟩ : okW 11 2 (nF [1, 2]) 0) wt12_E hR
  rw [z_num] at this
  exact this.mono fun e w' ⟨gb, h1, cur, h2, h3⟩ => ⟨gb, h1, cur, h2.congr wt12, h3⟩
theorem al_wtd {g cap : Nat} {cur : List Value} (ho : NOwn cap cur 2 (nF [1, 1])) (hm : (g, Obj.cells cur.toArray 24) ∈ L) (hR : Rep B0 w0 L w) : Calls Try.prog 16 #[grp 0 11 0 0, .slice (some ⟨g, 0, none⟩) 2 cap, .agg #[.int .u64 0, .int .u64 0, .int .u64 0, .int .u64 0]] w fun e w' => e = .returned (.tuple #[.slice none 0 0, .int .i64 1]) ∧ Rep B0 w0 L w' := by
  have := weights_no (g := 0) (h := 0) lt0B lt11 lt0B (by decide) (ho.at (B0 := B0) (w0 := w0) hm (Nat.le_refl _) (nF_all rfl fun x hx => Nat.lt_trans ((by decide : ∀ x ∈ [1, 1], x < 11) x hx) lt11)) (fun h => h.1.2.1 1 (by decide) 0 (by decide) rfl : ¬ okW 11 2 (nF [1, 1]) 0) hR
  rw [z_num] at this
  exact this
theorem al_wtn (hR : Rep B0 w0 L w) : Calls Try.prog 16 #[grp 0 11 0 0, .slice none 0 0, .agg #[.int .u64 0, .int .u64 0, .int .u64 0, .int .u64 0]] w fun e w' => e = .returned (.tuple #[.slice none 0 0, .int .i64 1]) ∧ Rep B0 w0 L w' := by
  have := weights_no (g := 0) (h := 0) lt0B lt11 lt0B (by decide) (nAt_nil (B0 := B0) (w0 := w0) (L := L) (nF [])) (fun h => absurd h.1.1 (by decide) : ¬ okW 11 0 (nF []) 0) hR
  rw [z_num] at this
  exact this
theorem al_th {g cap g' cap' : Nat} {cur cur' : List Value} (ho : NOwn cap cur 3 (nF [1, 2, 3])) (hm : (g, Obj.cells cur.toArray 24) ∈ L) (ho' : NOwn cap' cur' 3 (nF [6, 6, 1])) (hm' : (g', Obj.cells cur'.toArray 24) ∈ L) (hR : Rep B0 w0 L w) : Calls Try.prog 11 #[grp 0 11 0 0, .slice (some ⟨g, 0, none⟩) 3 cap, .slice (some ⟨g', 0, none⟩) 3 cap'] w fun e w' => ∃ gb, e = .returned (.tuple #[.slice (some ⟨gb, 0, none⟩) 3 3, .int .i64 0]) ∧ ∃ cur : List Value, NOwn 3 cur 3 (nF [1, 2, 3]) ∧ Rep B0 w0 ((gb, .cells cur.toArray 24) :: L) w' :=
  (through_yes (g := 0) (h := 0) lt0B lt11 (by decide) (ho.at (B0 := B0) (w0 := w0) hm (Nat.le_refl _) (nF_all rfl fun x hx => Nat.lt_trans ((by decide : ∀ x ∈ [1, 2, 3], x < 11) x hx) lt11)) (ho'.at (B0 := B0) (w0 := w0) hm' (Nat.le_refl _) (nF_all rfl fun x hx => Nat.lt_trans ((by decide : ∀ x ∈ [6, 6, 1], x < 11) x hx) lt11)) (⟨lit_pts rfl (by decide) (by decide) (by decide) (by decide), rfl, nF_all rfl (by decide)⟩ : okT 11 3 3 (nF [1, 2, 3]) (nF [6, 6, 1])) th_E hR).mono fun e w' ⟨gb, h1, cur, h2, h3⟩ => ⟨gb, h1, cur, h2.congr th123, h3⟩
theorem al_thf {g cap g' cap' : Nat} {cur cur' : List Value} (ho : NOwn cap cur 2 (nF [0, 2])) (hm : (g, Obj.cells cur.toArray 24) ∈ L) (ho' : NOwn cap' cur' 2 (nF [1, 1])) (hm' : (g', Obj.cells cur'.toArray 24) ∈ L) (hR : Rep B0 w0 L w) : Calls Try.prog 11 #[grp 0 4 0 0, .slice (some ⟨g, 0, none⟩) 2 cap, .slice (some ⟨g', 0, none⟩) 2 cap'] w fun e w' => e = .returned (.tuple #[.slice none 0 0, .int .i64 7]) ∧ Rep B0 w0 L w' :=
  through_err (g := 0) (h := 0) lt0B (lt_B (by decide)) (by decide) (ho.at (B0 := B0) (w0 := w0) hm (Nat.le_refl _) (nF_all rfl fun x hx => Nat.lt_trans ((by decide : ∀ x ∈ [0, 2], x < 11) x hx) lt11)) (ho'.at (B0 := B0) (w0 := w0) hm' (Nat.le_refl _) (nF_all rfl fun x hx => Nat.lt_trans ((by decide : ∀ x ∈ [1, 1], x < 11) x hx) lt11)) (⟨lit_pts rfl (by decide) (by decide) (by decide) (by decide), rfl, nF_all rfl (by decide)⟩ : okT 4 2 2 (nF [0, 2]) (nF [1, 1])) th_four hR
theorem al_same {n g cap g' cap' : Nat} {cur cur' : List Value} {f : Nat → Nat} (hn : n ≤ 1000) (hf : ∀ j, j < n → f j < 11) (ho : NOwn cap cur n f) (hm : (g, Obj.cells cur.toArray 24) ∈ L) (ho' : NOwn cap' cur' n f) (hm' : (g', Obj.cells cur'.toArray 24) ∈ L) (hR : Rep B0 w0 L w) : Calls Try.prog 12 #[.slice (some ⟨g, 0, none⟩) n cap, .slice (some ⟨g', 0, none⟩) n cap'] w fun e w' => e = .returned (.bool true) ∧ Rep B0 w0 L w' :=
  same_nums (ho.at (B0 := B0) (w0 := w0) hm (Nat.le_refl _) fun j hj => Nat.lt_trans (hf j hj) lt11) (ho'.at (B0 := B0) (w0 := w0) hm' (Nat.le_refl _) fun j hj => Nat.lt_trans (hf j hj) lt11) hn true ⟨fun _ => ⟨rfl, fun _ _ => rfl⟩, fun _ => rfl⟩ hR
end
section
variable {P : Program} {ops : Array Oper} {B0 : Nat} {w0 w : World} {L : List (Nat × Obj)} {rest : List Oper} {o : Oper} {a : Act} {Q : Exit → Act → World → Prop}
theorem wpList_consts {ty el : TypeId} {n : Nat} {l : List Value} (parts : List (Nat × Value)) (hR : Rep B0 w0 L w) (hg : Region.wanted o (yielded ops a.tmps) = true) (hop : o.op = .buildSlice ty n (parts.map fun p => (p.1, Operand.const p.2)).toArray)
    (hrun : ∀ w, (Instr.buildSlice ty n parts.toArray).run P w = .ok (.slice (some ⟨w.heap.size, 0, none⟩) n n) (w.alloc (.cells l.toArray el)))
    (h : ∀ b w', Rep B0 w0 ((b, .cells l.toArray el) :: L) w' → wpList P ops Q rest (a.put o.dst (.slice (some ⟨b, 0, none⟩) n n)) w') : wpList P ops Q (o :: rest) a w :=
  xCu hg fun _ hK => by
    have e : (parts.map fun p => (p.1, Operand.const p.2)).toArray.map (fun p => (p.1, a.eval p.2)) = parts.toArray := by
      simp [Act.eval, Function.comp_def]
    unfold Oper.wp execOp
    simp only [hop, e, hrun, Sem.run_bind, Result.andThen_ok, Sem.run_pure]
    exact hK _ _ (h _ _ (hR.alloc _))
theorem wpList_build1I (hg : o.guard = none) {t : TypeId} {i : Nat} {x : Operand} (hop : o.op = .build t #[(i, x)]) {vx v : Value} (hx : ev a x = some vx)
    (hrun : ∀ w, (Instr.build t #[(i, vx)]).run P w = .ok v w) (h : wpList P ops Q rest (a.put o.dst v) w) : wpList P ops Q (o :: rest) a w :=
  wpList_plain hg fun _ hK => by
    have hx := xBs hx
    unfold Oper.wp execOp
    simp only [hop, List.map_toArray, List.map_cons, List.map_nil, hx, hrun, Sem.run_bind, Result.andThen_ok, Sem.run_pure]
    exact hK _ _ h
theorem wpList_build1W (hg : Region.wanted o (yielded ops a.tmps) = true) {t : TypeId} {i : Nat} {x : Operand} (hop : o.op = .build t #[(i, x)]) {vx v : Value} (hx : ev a x = some vx)
    (hrun : ∀ w, (Instr.build t #[(i, vx)]).run P w = .ok v w) (h : wpList P ops Q rest (a.put o.dst v) w) : wpList P ops Q (o :: rest) a w :=
  xCu hg fun _ hK => by
    have hx := xBs hx
    unfold Oper.wp execOp
    simp only [hop, List.map_toArray, List.map_cons, List.map_nil, hx, hrun, Sem.run_bind, Result.andThen_ok, Sem.run_pure]
    exact hK _ _ h
theorem xCg {ty el : TypeId} {n : Nat} {l : List Value} (parts : List (Nat × Value)) (hg : o.guard = none) (hop : o.op = .buildSlice ty n (parts.map fun p => (p.1, Operand.const p.2)).toArray)
    (hrun : ∀ w, (Instr.buildSlice ty n parts.toArray).run P w = .ok (.slice (some ⟨w.heap.size, 0, none⟩) n n) (w.alloc (.cells l.toArray el))) : IsNew P o a (.cells l.toArray el) (fun b => .slice (some ⟨b, 0, none⟩) n n) :=
  ⟨hg, fun w => by
    have e : (parts.map fun p => (p.1, Operand.const p.2)).toArray.map (fun p => (p.1, a.eval p.2)) = parts.toArray := by
      simp [Act.eval, Function.comp_def]
    unfold execOp
    simp only [hop, e, hrun, Sem.run_bind, Result.andThen_ok, Sem.run_pure]⟩
end
@[go_sem] theorem eq_zz (w : World) : (Op.equalIn 10000 24 (.agg #[.int .u64 0, .int .u64 0, .int .u64 0, .int .u64 0]) (.agg #[.int .u64 0, .int .u64 0, .int .u64 0, .int .u64 0])).run Try.prog w = .ok true w := by
  have h := equalIn_num 0 0 w
  rw [← nl_zero, eqN_self] at h
  exact h
set_option maxRecDepth 100000 in
set_option maxHeartbeats 8000000 in
theorem alive10 (W : World) : Calls Try.prog 9 #[] W fun e w' => e = .returned (.bool true) ∧ Below W.heap.size W w' := by
  have hR := Rep.init W
  have b11 : ∀ w, (Instr.build 24 #[(0, .int .u64 11)]).run Try.prog w = .ok (.agg (nl 11).toArray) w := build_small 11 (by decide)
  have bu4 : ∀ w, (Instr.build 24 #[(0, .int .u64 4)]).run Try.prog w = .ok (.agg (nl 4).toArray) w := build_small 4 (by decide)
  have bu6 : ∀ w, (Instr.build 24 #[(0, .int .u64 6)]).run Try.prog w = .ok (.agg (nl 6).toArray) w := build_small 6 (by decide)
  have bg4 : ∀ w, (Instr.build 26 #[(1, .agg (nl 4).toArray)]).run Try.prog w = .ok (.agg (gl 0 4 0 0).toArray) w := build_grpQ 4
  have q6 := eqN_self 6
  have b5 : ∀ w, (Instr.build 24 #[(0, .int .u64 5)]).run Try.prog w = .ok (.agg (nl 5).toArray) w := build_small 5 (by decide)
  have b2 : ∀ w, (Instr.build 24 #[(0, .int .u64 2)]).run Try.prog w = .ok (.agg (nl 2).toArray) w := build_small 2 (by decide)
  have bg11 : ∀ w, (Instr.build 26 #[(1, .agg (nl 11).toArray)]).run Try.prog w = .ok (.agg (gl 0 11 0 0).toArray) w := build_grpQ 11
  go_enter Try.func9, Try.ntmps9
  go_wp2_with (first | (refine' xAb hR rfl rfl rfl ?_; clear hR; intro blk w hR) | (refine' xAa hR rfl rfl inferInstance ?_; clear hR; intro blk w hR) | (refine' aFq hR rfl rfl rfl inferInstance ?_) | (refine' aGq hR rfl rfl rfl inferInstance ?_) | (refine' aHq hR rfl rfl rfl inferInstance ?_) | (refine' aIq hR rfl rfl rfl inferInstance rfl ?_; clear hR; intro w hR) | (refine' aJq hR rfl rfl rfl inferInstance rfl rfl ?_; clear hR; intro w hR) | (refine' xCl rfl rfl rfl b11 ?_) | (refine' wpList_build1I rfl rfl rfl bg11 ?_))
  obtain ⟨b1, hb1⟩ : ∃ x, x = blk := ⟨_, rfl⟩
  subst hb1
  try simp only [Act.put, kA, kB, List.setIfInBounds_toArray]
  refine cut_code (fun l tm w' => ∃ c2, agree (false :: false :: false :: false :: false :: false :: false :: false :: false :: false :: false :: false :: false :: false :: false :: false :: false :: false :: true :: true :: true :: true :: true :: true :: true :: true :: false :: false :: false :: false :: false :: false :: false :: false :: false :: false :: false :: false :: false :: false :: false :: false :: false :: false :: false :: false :: false :: false :: false :: false :: false :: false :: false :: false :: false :: false :: false :: false :: false :: false :: false :: false :: false :: false :: false :: false :: false :: false :: false :: false :: false :: false :: false :: false :: false :: false :: false :: false :: false :: false :: false :: false :: false :: false :: false :: false :: false :: false :: false :: false :: false :: false :: false :: false :: false :: false :: false :: false :: false :: false :: false :: false :: false :: false :: false :: false :: false :: false :: false :: false :: false :: false :: false :: false :: false :: false :: false :: false :: false :: false :: false :: []) ((l.set 2 (.pointer (some ⟨c2, 0, none⟩))).set 3 (.int .i64 0)) tm ∧ Rep W.heap.size W [(c2, .cells (nl 6).toArray 24), (b1, .cells (gl 0 11 0 0).toArray 26)] w') ?r1 ?r2
  case r1 =>
    intro Q' hQ'
    refine xBy hR 11 xCo rfl ?_
    clear hR
    refine xCi [(b1, .cells (gl 0 11 0 0).toArray 26)] [1, 2, 2, 1, 2, 2, 2, 2, 2, 2, 2] 9 rfl (by repeat (first | exact xAk | refine xAc (by repeat (first | exact .head _ | with_reducible assumption | apply mC)) ?_)) (by repeat (first | exact xAk | refine xAc (by repeat (first | exact .head _ | with_reducible assumption | apply mC)) ?_)) rfl (by decide +kernel) (fun K hK => ?_)
    repeat ((first | (refine' xCm rfl rfl rfl inferInstance ?hm ?hn ?ha ?_; (case hm => exact .head _); (case hn => rfl)) | (refine' hd_build1P (by decide) rfl rfl rfl b2 ?ha ?_) | (refine xBj ?_) | (refine' xAq (by decide) rfl (.inl rfl) rfl ?ha ?_) | (refine' xAq (by decide) rfl (.inr rfl) rfl ?ha ?_) | (refine' xAm rfl rfl rfl inferInstance ?hm ?hn ?ha ?_; (case hm => first | with_reducible assumption | repeat (first | exact .head _ | with_reducible assumption | apply mC)); (case hn => first | rfl | simp)) | (refine' xAi rfl rfl rfl inferInstance ?hm ?hv ?hn ?ha ?_; (case hm => first | with_reducible assumption | repeat (first | exact .head _ | with_reducible assumption | apply mC)); (case hv => first | with_reducible assumption | (simp only [kC, kD, kE, kF]; try rfl)); (case hn => first | rfl | simp)) | (refine' xAg rfl rfl rfl inferInstance ?hm ?hv ?ha ?_; (case hm => first | with_reducible assumption | repeat (first | exact .head _ | with_reducible assumption | apply mC)); (case hv => first | rfl | with_reducible assumption)) | (refine' xAj rfl rfl rfl inferInstance ?hm ?hv ?hn ?ha ?_; (case hm => first | with_reducible assumption | repeat (first | exact .head _ | with_reducible assumption | apply mC)); (case hv => first | with_reducible assumption | (simp only [kC, kD, kE, kF]; try rfl)); (case hn => first | rfl | simp)) | (refine' xAh rfl rfl rfl inferInstance ?hm ?hv ?ha ?_; (case hm => first | with_reducible assumption | repeat (first | exact .head _ | with_reducible assumption | apply mC)); (case hv => first | rfl | with_reducible assumption)) | ((first | refine' xAe (by decide) rfl rfl rfl rfl (fun w => ?hq) ?ha ?_ | refine' xAx (by decide) rfl rfl rfl rfl (fun w => ?hq) ?ha ?_ | refine' xAn (by decide) rfl rfl rfl (fun w => ?hq) ?ha ?_ | refine' xAd (by decide) rfl rfl rfl (fun w => ?hq) ?ha ?_ | refine' xAl (by decide) rfl rfl rfl (fun w => ?hq) ?ha ?_ | refine' xAz (by decide) rfl rfl rfl rfl (fun w => ?hq) ?ha ?_ | refine' xAw (by decide) rfl rfl rfl rfl rfl rfl (fun w => ?hq) ?ha ?_ | refine' xAy (by decide) rfl rfl (fun w => ?hq) ?ha ?_ | refine' xAo (by decide) rfl rfl rfl (fun w => ?hq) ?ha ?_ | refine' xBa (by decide) rfl rfl rfl (fun w => ?hq) ?ha ?_); (case hq => go_simp; try rfl)) | (refine' xAf (by decide) rfl rfl rfl ?ha ?_) | (refine' xBh (by decide) rfl rfl rfl rfl ?ha ?_) | (refine' xBi (by decide) rfl ?ha ?_)); try (case ha => simp only [kP, kQ, kA, kB]; try rfl))
    refine xBo (hK _ _ ?_)
    clear hK K
    try simp only [Act.put, kA, kB, List.setIfInBounds_toArray]
    repeat' (first
      | exact xCd
      | (refine f_is 1 ?_; refine f_new rfl rfl (xCg [(0, .int .u64 1), (1, .int .u64 2), (2, .int .u64 3)] rfl rfl (u64s_3 1 2 3)) (by repeat (first | exact xAk | refine xAc (by repeat (first | exact .head _ | with_reducible assumption | apply mC)) ?_)) (fun ba => ?_) ?_; simp only [Act.put, kA, kB, List.setIfInBounds_toArray])
      | (refine f_is 8 ?_; refine f_new rfl rfl (xCj rfl rfl) (by repeat (first | exact xAk | refine xAc (by repeat (first | exact .head _ | with_reducible assumption | apply mC)) ?_)) (fun c2 => ?_) ?_; simp only [Act.put, kA, kB, List.setIfInBounds_toArray])
      | (refine f_is 2 ?_; refine f_call (fun v M => ∃ g cap, ∃ cur : List Value, v = .slice (some ⟨g, 0, none⟩) 3 cap ∧ NOwn cap cur 3 (nF [1, 2, 3]) ∧ M = (g, .cells cur.toArray 24) :: _) rfl rfl rfl rfl rfl (xBl Try.func22 (by kernel_rfl) (by kernel_rfl) _) (fun w hw => (xCq (us := [1, 2, 3]) (by repeat (first | exact .head _ | with_reducible assumption | apply mC)) rfl (by decide) (by decide) (by decide) hw).mono fun e w' ⟨g, cap, h1, cur, h2, h3⟩ => ⟨_, h1, _, ⟨g, cap, cur, rfl, h2, rfl⟩, h3⟩) ?_ ?_; rintro v M ⟨gA, capA, curA, rfl, hoA, rfl⟩; refine ⟨(by repeat (first | exact xAk | refine xAc (by repeat (first | exact .head _ | with_reducible assumption | apply mC)) ?_)), ?_⟩; simp only [Act.put, kA, kB, List.setIfInBounds_toArray])
      | (refine f_is 4 ?_; refine f_y rfl rfl (xBv rfl rfl rfl (xBl Try.func10 (by kernel_rfl) (by kernel_rfl) _) (fun w hw => al_at hoA (by repeat (first | exact .head _ | with_reducible assumption | apply mC)) hw)) (by repeat (first | exact xAk | refine xAc (by repeat (first | exact .head _ | with_reducible assumption | apply mC)) ?_)) ?_ ?_; simp only [Act.put, kA, kB, List.setIfInBounds_toArray])
      | (refine f_is 5 ?_; refine f_y rfl rfl (xBg rfl (.inr rfl) rfl) (by repeat (first | exact xAk | refine xAc (by repeat (first | exact .head _ | with_reducible assumption | apply mC)) ?_)) ?_ ?_; simp only [Act.put, kA, kB, List.setIfInBounds_toArray])
      | (refine f_is 9 ?_; refine' f_s rfl rfl (xBw (l := [.int .u64 0, .int .u64 0, .int .u64 0, .int .u64 0]) rfl rfl rfl inferInstance rfl rfl rfl rfl ?hs) ?hk ?_ ?_; (case hs => repeat (first | exact xAv.head | with_reducible assumption | apply xAv.tail)); (case hk => repeat (first | exact xAk | refine xAc (by repeat (first | exact .head _ | with_reducible assumption | apply mC)) ?_)); try simp only [Act.put, kA, kB, List.setIfInBounds_toArray])
      | (refine f_is 10 ?_; refine f_y rfl rfl (xBg rfl (.inl rfl) rfl) (by repeat (first | exact xAk | refine xAc (by repeat (first | exact .head _ | with_reducible assumption | apply mC)) ?_)) ?_ ?_; simp only [Act.put, kA, kB, List.setIfInBounds_toArray])
      | refine f_at [1, 8] (by decide +kernel) rfl ?_
      | refine f_at [2, 8] (by decide +kernel) rfl ?_
      | refine f_at [4, 8] (by decide +kernel) rfl ?_
      | refine f_at [5, 8] (by decide +kernel) rfl ?_
      | refine f_at [1] (by decide +kernel) rfl ?_
      | refine f_at [2] (by decide +kernel) rfl ?_
      | refine f_at [4] (by decide +kernel) rfl ?_
      | refine f_at [5] (by decide +kernel) rfl ?_
      | refine f_at [9] (by decide +kernel) rfl ?_
      | refine f_at [10] (by decide +kernel) rfl ?_
      | ((refine xCi [(b1, .cells (gl 0 11 0 0).toArray 26)] [2, 2, 2, 2, 2, 2, 1, 1, 2, 2, 2] 2 rfl (by repeat (first | exact xAk | refine xAc (by repeat (first | exact .head _ | with_reducible assumption | apply mC)) ?_)) (by repeat (first | exact xAk | refine xAc (by repeat (first | exact .head _ | with_reducible assumption | apply mC)) ?_)) rfl (by decide +kernel) (fun K hK => ?_); (repeat ((first | (refine xBj ?_) | (refine' xAq (by decide) rfl (.inl rfl) rfl ?ha ?_) | (refine' xAq (by decide) rfl (.inr rfl) rfl ?ha ?_) | (refine' xAm rfl rfl rfl inferInstance ?hm ?hn ?ha ?_; (case hm => first | with_reducible assumption | repeat (first | exact .head _ | with_reducible assumption | apply mC)); (case hn => first | rfl | simp)) | (refine' xAi rfl rfl rfl inferInstance ?hm ?hv ?hn ?ha ?_; (case hm => first | with_reducible assumption | repeat (first | exact .head _ | with_reducible assumption | apply mC)); (case hv => first | with_reducible assumption | (simp only [kC, kD, kE, kF]; try rfl)); (case hn => first | rfl | simp)) | (refine' xAg rfl rfl rfl inferInstance ?hm ?hv ?ha ?_; (case hm => first | with_reducible assumption | repeat (first | exact .head _ | with_reducible assumption | apply mC)); (case hv => first | rfl | with_reducible assumption)) | (refine' xAj rfl rfl rfl inferInstance ?hm ?hv ?hn ?ha ?_; (case hm => first | with_reducible assumption | repeat (first | exact .head _ | with_reducible assumption | apply mC)); (case hv => first | with_reducible assumption | (simp only [kC, kD, kE, kF]; try rfl)); (case hn => first | rfl | simp)) | (refine' xAh rfl rfl rfl inferInstance ?hm ?hv ?ha ?_; (case hm => first | with_reducible assumption | repeat (first | exact .head _ | with_reducible assumption | apply mC)); (case hv => first | rfl | with_reducible assumption)) | ((first | refine' xAe (by decide) rfl rfl rfl rfl (fun w => ?hq) ?ha ?_ | refine' xAx (by decide) rfl rfl rfl rfl (fun w => ?hq) ?ha ?_ | refine' xAn (by decide) rfl rfl rfl (fun w => ?hq) ?ha ?_ | refine' xAd (by decide) rfl rfl rfl (fun w => ?hq) ?ha ?_ | refine' xAl (by decide) rfl rfl rfl (fun w => ?hq) ?ha ?_ | refine' xAz (by decide) rfl rfl rfl rfl (fun w => ?hq) ?ha ?_ | refine' xAw (by decide) rfl rfl rfl rfl rfl rfl (fun w => ?hq) ?ha ?_ | refine' xAy (by decide) rfl rfl (fun w => ?hq) ?ha ?_ | refine' xAo (by decide) rfl rfl rfl (fun w => ?hq) ?ha ?_ | refine' xBa (by decide) rfl rfl rfl (fun w => ?hq) ?ha ?_); (case hq => go_simp; try rfl)) | (refine' xAf (by decide) rfl rfl rfl ?ha ?_) | (refine' xBh (by decide) rfl rfl rfl rfl ?ha ?_) | (refine' xBi (by decide) rfl ?ha ?_) | fail); try (case ha => simp only [kP, kQ, kA, kB]; try rfl))); refine xBo (hK _ _ ?_); clear hK K); try simp only [Act.put, kA, kB, List.setIfInBounds_toArray])
      | ((refine xCi [(b1, .cells (gl 0 11 0 0).toArray 26)] [2, 2, 2, 2, 2, 2, 1, 1, 2, 2, 2] 3 rfl (by repeat (first | exact xAk | refine xAc (by repeat (first | exact .head _ | with_reducible assumption | apply mC)) ?_)) (by repeat (first | exact xAk | refine xAc (by repeat (first | exact .head _ | with_reducible assumption | apply mC)) ?_)) rfl (by decide +kernel) (fun K hK => ?_); (repeat ((first | (refine xBj ?_) | (refine' xAq (by decide) rfl (.inl rfl) rfl ?ha ?_) | (refine' xAq (by decide) rfl (.inr rfl) rfl ?ha ?_) | (refine' xAm rfl rfl rfl inferInstance ?hm ?hn ?ha ?_; (case hm => first | with_reducible assumption | repeat (first | exact .head _ | with_reducible assumption | apply mC)); (case hn => first | rfl | simp)) | (refine' xAi rfl rfl rfl inferInstance ?hm ?hv ?hn ?ha ?_; (case hm => first | with_reducible assumption | repeat (first | exact .head _ | with_reducible assumption | apply mC)); (case hv => first | with_reducible assumption | (simp only [kC, kD, kE, kF]; try rfl)); (case hn => first | rfl | simp)) | (refine' xAg rfl rfl rfl inferInstance ?hm ?hv ?ha ?_; (case hm => first | with_reducible assumption | repeat (first | exact .head _ | with_reducible assumption | apply mC)); (case hv => first | rfl | with_reducible assumption)) | (refine' xAj rfl rfl rfl inferInstance ?hm ?hv ?hn ?ha ?_; (case hm => first | with_reducible assumption | repeat (first | exact .head _ | with_reducible assumption | apply mC)); (case hv => first | with_reducible assumption | (simp only [kC, kD, kE, kF]; try rfl)); (case hn => first | rfl | simp)) | (refine' xAh rfl rfl rfl inferInstance ?hm ?hv ?ha ?_; (case hm => first | with_reducible assumption | repeat (first | exact .head _ | with_reducible assumption | apply mC)); (case hv => first | rfl | with_reducible assumption)) | ((first | refine' xAe (by decide) rfl rfl rfl rfl (fun w => ?hq) ?ha ?_ | refine' xAx (by decide) rfl rfl rfl rfl (fun w => ?hq) ?ha ?_ | refine' xAn (by decide) rfl rfl rfl (fun w => ?hq) ?ha ?_ | refine' xAd (by decide) rfl rfl rfl (fun w => ?hq) ?ha ?_ | refine' xAl (by decide) rfl rfl rfl (fun w => ?hq) ?ha ?_ | refine' xAz (by decide) rfl rfl rfl rfl (fun w => ?hq) ?ha ?_ | refine' xAw (by decide) rfl rfl rfl rfl rfl rfl (fun w => ?hq) ?ha ?_ | refine' xAy (by decide) rfl rfl (fun w => ?hq) ?ha ?_ | refine' xAo (by decide) rfl rfl rfl (fun w => ?hq) ?ha ?_ | refine' xBa (by decide) rfl rfl rfl (fun w => ?hq) ?ha ?_); (case hq => go_simp; try rfl)) | (refine' xAf (by decide) rfl rfl rfl ?ha ?_) | (refine' xBh (by decide) rfl rfl rfl rfl ?ha ?_) | (refine' xBi (by decide) rfl ?ha ?_) | fail); try (case ha => simp only [kP, kQ, kA, kB]; try rfl))); refine xBo (hK _ _ ?_); clear hK K); try simp only [Act.put, kA, kB, List.setIfInBounds_toArray])
      | refine f_at [8] (by decide +kernel) rfl ?_
      | (refine f_end (by decide +kernel) (fun w hR => ?_); simp only [Exit.then]; refine hQ'.out _ _ ⟨c2, xBd rfl rfl rfl, hR.weaken (by repeat (first | exact List.nil_sublist _ | exact List.Sublist.refl _ | refine List.Sublist.cons_cons _ ?_ | refine List.Sublist.cons _ ?_))⟩))
  case r2 =>
    clear hR
    rename_i K5 k5
    rintro tm w ⟨c2, ht, hR⟩
    repeat (first | (obtain ⟨x, tm', e, ht'⟩ := xAr ht; clear ht; subst e; have ht := ht'; clear ht') | (obtain ⟨tm', e, ht'⟩ := xAp ht; clear ht; subst e; have ht := ht'; clear ht'))
    obtain rfl := xAu ht
    clear ht
    simp only [Exit.then]
    refine k5 _ _ ?_
    clear K5 k5
    go_wp2_with (first | (refine' xAb hR rfl rfl rfl ?_; clear hR; intro blk w hR) | (refine' xAa hR rfl rfl inferInstance ?_; clear hR; intro blk w hR) | (refine' aFq hR rfl rfl rfl inferInstance ?_) | (refine' aGq hR rfl rfl rfl inferInstance ?_) | (refine' aHq hR rfl rfl rfl inferInstance ?_) | (refine' aIq hR rfl rfl rfl inferInstance rfl ?_; clear hR; intro w hR) | (refine' aJq hR rfl rfl rfl inferInstance rfl rfl ?_; clear hR; intro w hR) | (refine' xCl rfl rfl rfl b5 ?_) | (go_at_call 10; refine (al_atn hR).mono ?_; clear hR; rintro e w ⟨rfl, hR⟩))
    obtain ⟨b4, hb4⟩ : ∃ x, x = blk := ⟨_, rfl⟩
    subst hb4
    try simp only [Act.put, kA, kB, List.setIfInBounds_toArray]
    rename_i K5 k5
    refine xBy hR 10 xCo rfl ?_
    clear hR
    refine xCi [(b1, .cells (gl 0 11 0 0).toArray 26)] [1, 2, 2, 1, 2, 2, 2, 2, 2, 2] 8 rfl (by repeat (first | exact xAk | refine xAc (by repeat (first | exact .head _ | with_reducible assumption | apply mC)) ?_)) (by repeat (first | exact xAk | refine xAc (by repeat (first | exact .head _ | with_reducible assumption | apply mC)) ?_)) rfl (by decide +kernel) (fun K hK => ?_)
    repeat ((first | (refine' xCm rfl rfl rfl inferInstance ?hm ?hn ?ha ?_; (case hm => exact .head _); (case hn => rfl)) | (refine xBj ?_) | (refine' xAq (by decide) rfl (.inl rfl) rfl ?ha ?_) | (refine' xAq (by decide) rfl (.inr rfl) rfl ?ha ?_) | (refine' xAm rfl rfl rfl inferInstance ?hm ?hn ?ha ?_; (case hm => first | with_reducible assumption | repeat (first | exact .head _ | with_reducible assumption | apply mC)); (case hn => first | rfl | simp)) | (refine' xAi rfl rfl rfl inferInstance ?hm ?hv ?hn ?ha ?_; (case hm => first | with_reducible assumption | repeat (first | exact .head _ | with_reducible assumption | apply mC)); (case hv => first | with_reducible assumption | (simp only [kC, kD, kE, kF]; try rfl)); (case hn => first | rfl | simp)) | (refine' xAg rfl rfl rfl inferInstance ?hm ?hv ?ha ?_; (case hm => first | with_reducible assumption | repeat (first | exact .head _ | with_reducible assumption | apply mC)); (case hv => first | rfl | with_reducible assumption)) | (refine' xAj rfl rfl rfl inferInstance ?hm ?hv ?hn ?ha ?_; (case hm => first | with_reducible assumption | repeat (first | exact .head _ | with_reducible assumption | apply mC)); (case hv => first | with_reducible assumption | (simp only [kC, kD, kE, kF]; try rfl)); (case hn => first | rfl | simp)) | (refine' xAh rfl rfl rfl inferInstance ?hm ?hv ?ha ?_; (case hm => first | with_reducible assumption | repeat (first | exact .head _ | with_reducible assumption | apply mC)); (case hv => first | rfl | with_reducible assumption)) | ((first | refine' xAe (by decide) rfl rfl rfl rfl (fun w => ?hq) ?ha ?_ | refine' xAx (by decide) rfl rfl rfl rfl (fun w => ?hq) ?ha ?_ | refine' xAn (by decide) rfl rfl rfl (fun w => ?hq) ?ha ?_ | refine' xAd (by decide) rfl rfl rfl (fun w => ?hq) ?ha ?_ | refine' xAl (by decide) rfl rfl rfl (fun w => ?hq) ?ha ?_ | refine' xAz (by decide) rfl rfl rfl rfl (fun w => ?hq) ?ha ?_ | refine' xAw (by decide) rfl rfl rfl rfl rfl rfl (fun w => ?hq) ?ha ?_ | refine' xAy (by decide) rfl rfl (fun w => ?hq) ?ha ?_ | refine' xAo (by decide) rfl rfl rfl (fun w => ?hq) ?ha ?_ | refine' xBa (by decide) rfl rfl rfl (fun w => ?hq) ?ha ?_); (case hq => go_simp; try rfl)) | (refine' xAf (by decide) rfl rfl rfl ?ha ?_) | (refine' xBh (by decide) rfl rfl rfl rfl ?ha ?_) | (refine' xBi (by decide) rfl ?ha ?_)); try (case ha => simp only [kP, kQ, kA, kB]; try rfl))
    refine xBo (hK _ _ ?_)
    clear hK K
    try simp only [Act.put, kA, kB, List.setIfInBounds_toArray]
    refine f_at [1] (by decide +kernel) rfl ?_
    refine f_is 1 ?_
    refine f_new rfl rfl (xCg [(0, .int .u64 1), (1, .int .u64 2)] rfl rfl (u64s_2 1 2)) (by repeat (first | exact xAk | refine xAc (by repeat (first | exact .head _ | with_reducible assumption | apply mC)) ?_)) (fun ba => ?_) xCd
    simp only [Act.put, kA, kB, List.setIfInBounds_toArray]
    refine f_at [2] (by decide +kernel) rfl ?_
    refine f_is 2 ?_
    refine f_call (fun v M => ∃ g cap, ∃ cur : List Value, v = .slice (some ⟨g, 0, none⟩) 2 cap ∧ NOwn cap cur 2 (nF [1, 2]) ∧ M = (g, .cells cur.toArray 24) :: _) rfl rfl rfl rfl rfl (xBl Try.func22 (by kernel_rfl) (by kernel_rfl) _) (fun w hw => (xCq (us := [1, 2]) (by repeat (first | exact .head _ | with_reducible assumption | apply mC)) rfl (by decide) (by decide) (by decide) hw).mono fun e w' ⟨g, cap, h1, cur, h2, h3⟩ => ⟨_, h1, _, ⟨g, cap, cur, rfl, h2, rfl⟩, h3⟩) ?_ xCd
    rintro v M ⟨gA, capA, curA, rfl, hoA, rfl⟩
    refine ⟨(by repeat (first | exact xAk | refine xAc (by repeat (first | exact .head _ | with_reducible assumption | apply mC)) ?_)), ?_⟩
    simp only [Act.put, kA, kB, List.setIfInBounds_toArray]
    refine f_at [4] (by decide +kernel) rfl ?_
    refine f_is 4 ?_
    refine f_call (fun v M => ∃ gb, ∃ cur : List Value, v = .tuple #[.slice (some ⟨gb, 0, none⟩) 2 2, .int .i64 0] ∧ NOwn 2 cur 2 (nF [2, 10]) ∧ M = (gb, .cells cur.toArray 24) :: _) rfl rfl rfl rfl rfl (xBl Try.func16 (by kernel_rfl) (by kernel_rfl) _) (fun w hw => (al_wt hoA (by repeat (first | exact .head _ | with_reducible assumption | apply mC)) hw).mono fun e w' ⟨gb, h1, cur, h2, h3⟩ => ⟨_, h1, _, ⟨gb, cur, rfl, h2, rfl⟩, h3⟩) ?_ xCd
    rintro v M ⟨gW, curW, rfl, hoW, rfl⟩
    refine ⟨(by repeat (first | exact xAk | refine xAc (by repeat (first | exact .head _ | with_reducible assumption | apply mC)) ?_)), ?_⟩
    simp only [Act.put, kA, kB, List.setIfInBounds_toArray]
    refine f_at [5] (by decide +kernel) rfl ?_
    refine f_is 5 ?_
    refine f_y rfl rfl (xBg rfl (.inr rfl) rfl) (by repeat (first | exact xAk | refine xAc (by repeat (first | exact .head _ | with_reducible assumption | apply mC)) ?_)) ?_ xCd
    simp only [Act.put, kA, kB, List.setIfInBounds_toArray]
    refine xCi [(b1, .cells (gl 0 11 0 0).toArray 26)] [2, 2, 2, 2, 2, 2, 1, 1, 2, 2] 2 rfl (by repeat (first | exact xAk | refine xAc (by repeat (first | exact .head _ | with_reducible assumption | apply mC)) ?_)) (by repeat (first | exact xAk | refine xAc (by repeat (first | exact .head _ | with_reducible assumption | apply mC)) ?_)) rfl (by decide +kernel) (fun K hK => ?_)
    repeat ((first | (refine xBj ?_) | (refine' xAq (by decide) rfl (.inl rfl) rfl ?ha ?_) | (refine' xAq (by decide) rfl (.inr rfl) rfl ?ha ?_) | (refine' xAm rfl rfl rfl inferInstance ?hm ?hn ?ha ?_; (case hm => first | with_reducible assumption | repeat (first | exact .head _ | with_reducible assumption | apply mC)); (case hn => first | rfl | simp)) | (refine' xAi rfl rfl rfl inferInstance ?hm ?hv ?hn ?ha ?_; (case hm => first | with_reducible assumption | repeat (first | exact .head _ | with_reducible assumption | apply mC)); (case hv => first | with_reducible assumption | (simp only [kC, kD, kE, kF]; try rfl)); (case hn => first | rfl | simp)) | (refine' xAg rfl rfl rfl inferInstance ?hm ?hv ?ha ?_; (case hm => first | with_reducible assumption | repeat (first | exact .head _ | with_reducible assumption | apply mC)); (case hv => first | rfl | with_reducible assumption)) | (refine' xAj rfl rfl rfl inferInstance ?hm ?hv ?hn ?ha ?_; (case hm => first | with_reducible assumption | repeat (first | exact .head _ | with_reducible assumption | apply mC)); (case hv => first | with_reducible assumption | (simp only [kC, kD, kE, kF]; try rfl)); (case hn => first | rfl | simp)) | (refine' xAh rfl rfl rfl inferInstance ?hm ?hv ?ha ?_; (case hm => first | with_reducible assumption | repeat (first | exact .head _ | with_reducible assumption | apply mC)); (case hv => first | rfl | with_reducible assumption)) | ((first | refine' xAe (by decide) rfl rfl rfl rfl (fun w => ?hq) ?ha ?_ | refine' xAx (by decide) rfl rfl rfl rfl (fun w => ?hq) ?ha ?_ | refine' xAn (by decide) rfl rfl rfl (fun w => ?hq) ?ha ?_ | refine' xAd (by decide) rfl rfl rfl (fun w => ?hq) ?ha ?_ | refine' xAl (by decide) rfl rfl rfl (fun w => ?hq) ?ha ?_ | refine' xAz (by decide) rfl rfl rfl rfl (fun w => ?hq) ?ha ?_ | refine' xAw (by decide) rfl rfl rfl rfl rfl rfl (fun w => ?hq) ?ha ?_ | refine' xAy (by decide) rfl rfl (fun w => ?hq) ?ha ?_ | refine' xAo (by decide) rfl rfl rfl (fun w => ?hq) ?ha ?_ | refine' xBa (by decide) rfl rfl rfl (fun w => ?hq) ?ha ?_); (case hq => go_simp; try rfl)) | (refine' xAf (by decide) rfl rfl rfl ?ha ?_) | (refine' xBh (by decide) rfl rfl rfl rfl ?ha ?_) | (refine' xBi (by decide) rfl ?ha ?_) | fail); try (case ha => simp only [kP, kQ, kA, kB]; try rfl))
    refine xBo (hK _ _ ?_)
    clear hK K
    try simp only [Act.put, kA, kB, List.setIfInBounds_toArray]
    refine f_at [8] (by decide +kernel) rfl ?_
    refine f_is 8 ?_
    refine f_y rfl rfl (xBg rfl (.inl rfl) rfl) (by repeat (first | exact xAk | refine xAc (by repeat (first | exact .head _ | with_reducible assumption | apply mC)) ?_)) ?_ xCd
    simp only [Act.put, kA, kB, List.setIfInBounds_toArray]
    refine f_at [9] (by decide +kernel) rfl ?_
    refine f_is 9 ?_
    refine f_y rfl rfl (xBg rfl (.inl rfl) rfl) (by repeat (first | exact xAk | refine xAc (by repeat (first | exact .head _ | with_reducible assumption | apply mC)) ?_)) ?_ xCd
    simp only [Act.put, kA, kB, List.setIfInBounds_toArray]
    refine f_end (by decide +kernel) (fun w hR => ?_)
    simp only [Exit.then]
    refine k5 _ _ ?_
    replace hR := hR.weaken (L' := [_, _, _, _]) (List.Sublist.cons_cons _ (List.Sublist.cons _ (List.Sublist.cons _ (List.Sublist.refl _))))
    clear K5 k5 hoA
    go_wp2_with (first | (refine' xAb hR rfl rfl rfl ?_; clear hR; intro blk w hR) | (refine' xAa hR rfl rfl inferInstance ?_; clear hR; intro blk w hR) | (refine' aFq hR rfl rfl rfl inferInstance ?_) | (refine' aGq hR rfl rfl rfl inferInstance ?_) | (refine' aHq hR rfl rfl rfl inferInstance ?_) | (refine' aIq hR rfl rfl rfl inferInstance rfl ?_; clear hR; intro w hR) | (refine' aJq hR rfl rfl rfl inferInstance rfl rfl ?_; clear hR; intro w hR) | fail)
    rename_i K5 k5
    refine xBy hR 10 xCo rfl ?_
    clear hR
    refine xCi [(b1, .cells (gl 0 11 0 0).toArray 26)] [1, 2, 2, 1, 2, 2, 2, 2, 2, 2] 8 rfl (by repeat (first | exact xAk | refine xAc (by repeat (first | exact .head _ | with_reducible assumption | apply mC)) ?_)) (by repeat (first | exact xAk | refine xAc (by repeat (first | exact .head _ | with_reducible assumption | apply mC)) ?_)) rfl (by decide +kernel) (fun K hK => ?_)
    repeat ((first | (refine' xCm rfl rfl rfl inferInstance ?hm ?hn ?ha ?_; (case hm => exact .head _); (case hn => rfl)) | (refine xBj ?_) | (refine' xAq (by decide) rfl (.inl rfl) rfl ?ha ?_) | (refine' xAq (by decide) rfl (.inr rfl) rfl ?ha ?_) | (refine' xAm rfl rfl rfl inferInstance ?hm ?hn ?ha ?_; (case hm => first | with_reducible assumption | repeat (first | exact .head _ | with_reducible assumption | apply mC)); (case hn => first | rfl | simp)) | (refine' xAi rfl rfl rfl inferInstance ?hm ?hv ?hn ?ha ?_; (case hm => first | with_reducible assumption | repeat (first | exact .head _ | with_reducible assumption | apply mC)); (case hv => first | with_reducible assumption | (simp only [kC, kD, kE, kF]; try rfl)); (case hn => first | rfl | simp)) | (refine' xAg rfl rfl rfl inferInstance ?hm ?hv ?ha ?_; (case hm => first | with_reducible assumption | repeat (first | exact .head _ | with_reducible assumption | apply mC)); (case hv => first | rfl | with_reducible assumption)) | (refine' xAj rfl rfl rfl inferInstance ?hm ?hv ?hn ?ha ?_; (case hm => first | with_reducible assumption | repeat (first | exact .head _ | with_reducible assumption | apply mC)); (case hv => first | with_reducible assumption | (simp only [kC, kD, kE, kF]; try rfl)); (case hn => first | rfl | simp)) | (refine' xAh rfl rfl rfl inferInstance ?hm ?hv ?ha ?_; (case hm => first | with_reducible assumption | repeat (first | exact .head _ | with_reducible assumption | apply mC)); (case hv => first | rfl | with_reducible assumption)) | ((first | refine' xAe (by decide) rfl rfl rfl rfl (fun w => ?hq) ?ha ?_ | refine' xAx (by decide) rfl rfl rfl rfl (fun w => ?hq) ?ha ?_ | refine' xAn (by decide) rfl rfl rfl (fun w => ?hq) ?ha ?_ | refine' xAd (by decide) rfl rfl rfl (fun w => ?hq) ?ha ?_ | refine' xAl (by decide) rfl rfl rfl (fun w => ?hq) ?ha ?_ | refine' xAz (by decide) rfl rfl rfl rfl (fun w => ?hq) ?ha ?_ | refine' xAw (by decide) rfl rfl rfl rfl rfl rfl (fun w => ?hq) ?ha ?_ | refine' xAy (by decide) rfl rfl (fun w => ?hq) ?ha ?_ | refine' xAo (by decide) rfl rfl rfl (fun w => ?hq) ?ha ?_ | refine' xBa (by decide) rfl rfl rfl (fun w => ?hq) ?ha ?_); (case hq => go_simp; try rfl)) | (refine' xAf (by decide) rfl rfl rfl ?ha ?_) | (refine' xBh (by decide) rfl rfl rfl rfl ?ha ?_) | (refine' xBi (by decide) rfl ?ha ?_)); try (case ha => simp only [kP, kQ, kA, kB]; try rfl))
    refine xBo (hK _ _ ?_)
    clear hK K
    try simp only [Act.put, kA, kB, List.setIfInBounds_toArray]
    refine f_at [1] (by decide +kernel) rfl ?_
    refine f_is 1 ?_
    refine f_new rfl rfl (xCg [(0, .int .u64 1), (1, .int .u64 1)] rfl rfl (u64s_2 1 1)) (by repeat (first | exact xAk | refine xAc (by repeat (first | exact .head _ | with_reducible assumption | apply mC)) ?_)) (fun bd => ?_) xCd
    simp only [Act.put, kA, kB, List.setIfInBounds_toArray]
    refine f_at [2] (by decide +kernel) rfl ?_
    refine f_is 2 ?_
    refine f_call (fun v M => ∃ g cap, ∃ cur : List Value, v = .slice (some ⟨g, 0, none⟩) 2 cap ∧ NOwn cap cur 2 (nF [1, 1]) ∧ M = (g, .cells cur.toArray 24) :: _) rfl rfl rfl rfl rfl (xBl Try.func22 (by kernel_rfl) (by kernel_rfl) _) (fun w hw => (xCq (us := [1, 1]) (by repeat (first | exact .head _ | with_reducible assumption | apply mC)) rfl (by decide) (by decide) (by decide) hw).mono fun e w' ⟨g, cap, h1, cur, h2, h3⟩ => ⟨_, h1, _, ⟨g, cap, cur, rfl, h2, rfl⟩, h3⟩) ?_ xCd
    rintro v M ⟨gD, capD, curD, rfl, hoD, rfl⟩
    refine ⟨(by repeat (first | exact xAk | refine xAc (by repeat (first | exact .head _ | with_reducible assumption | apply mC)) ?_)), ?_⟩
    simp only [Act.put, kA, kB, List.setIfInBounds_toArray]
    refine f_at [4] (by decide +kernel) rfl ?_
    refine f_is 4 ?_
    refine f_y rfl rfl (xBv rfl rfl rfl (xBl Try.func16 (by kernel_rfl) (by kernel_rfl) _) (fun w hw => al_wtd hoD (by repeat (first | exact .head _ | with_reducible assumption | apply mC)) hw)) (by repeat (first | exact xAk | refine xAc (by repeat (first | exact .head _ | with_reducible assumption | apply mC)) ?_)) ?_ xCd
    simp only [Act.put, kA, kB, List.setIfInBounds_toArray]
    refine f_at [5] (by decide +kernel) rfl ?_
    refine f_is 5 ?_
    refine f_y rfl rfl (xBg rfl (.inr rfl) rfl) (by repeat (first | exact xAk | refine xAc (by repeat (first | exact .head _ | with_reducible assumption | apply mC)) ?_)) ?_ xCd
    simp only [Act.put, kA, kB, List.setIfInBounds_toArray]
    refine xCi [(b1, .cells (gl 0 11 0 0).toArray 26)] [2, 2, 2, 2, 2, 2, 1, 1, 2, 2] 2 rfl (by repeat (first | exact xAk | refine xAc (by repeat (first | exact .head _ | with_reducible assumption | apply mC)) ?_)) (by repeat (first | exact xAk | refine xAc (by repeat (first | exact .head _ | with_reducible assumption | apply mC)) ?_)) rfl (by decide +kernel) (fun K hK => ?_)
    repeat ((first | (refine xBj ?_) | (refine' xAq (by decide) rfl (.inl rfl) rfl ?ha ?_) | (refine' xAq (by decide) rfl (.inr rfl) rfl ?ha ?_) | (refine' xAm rfl rfl rfl inferInstance ?hm ?hn ?ha ?_; (case hm => first | with_reducible assumption | repeat (first | exact .head _ | with_reducible assumption | apply mC)); (case hn => first | rfl | simp)) | (refine' xAi rfl rfl rfl inferInstance ?hm ?hv ?hn ?ha ?_; (case hm => first | with_reducible assumption | repeat (first | exact .head _ | with_reducible assumption | apply mC)); (case hv => first | with_reducible assumption | (simp only [kC, kD, kE, kF]; try rfl)); (case hn => first | rfl | simp)) | (refine' xAg rfl rfl rfl inferInstance ?hm ?hv ?ha ?_; (case hm => first | with_reducible assumption | repeat (first | exact .head _ | with_reducible assumption | apply mC)); (case hv => first | rfl | with_reducible assumption)) | (refine' xAj rfl rfl rfl inferInstance ?hm ?hv ?hn ?ha ?_; (case hm => first | with_reducible assumption | repeat (first | exact .head _ | with_reducible assumption | apply mC)); (case hv => first | with_reducible assumption | (simp only [kC, kD, kE, kF]; try rfl)); (case hn => first | rfl | simp)) | (refine' xAh rfl rfl rfl inferInstance ?hm ?hv ?ha ?_; (case hm => first | with_reducible assumption | repeat (first | exact .head _ | with_reducible assumption | apply mC)); (case hv => first | rfl | with_reducible assumption)) | ((first | refine' xAe (by decide) rfl rfl rfl rfl (fun w => ?hq) ?ha ?_ | refine' xAx (by decide) rfl rfl rfl rfl (fun w => ?hq) ?ha ?_ | refine' xAn (by decide) rfl rfl rfl (fun w => ?hq) ?ha ?_ | refine' xAd (by decide) rfl rfl rfl (fun w => ?hq) ?ha ?_ | refine' xAl (by decide) rfl rfl rfl (fun w => ?hq) ?ha ?_ | refine' xAz (by decide) rfl rfl rfl rfl (fun w => ?hq) ?ha ?_ | refine' xAw (by decide) rfl rfl rfl rfl rfl rfl (fun w => ?hq) ?ha ?_ | refine' xAy (by decide) rfl rfl (fun w => ?hq) ?ha ?_ | refine' xAo (by decide) rfl rfl rfl (fun w => ?hq) ?ha ?_ | refine' xBa (by decide) rfl rfl rfl (fun w => ?hq) ?ha ?_); (case hq => go_simp; try rfl)) | (refine' xAf (by decide) rfl rfl rfl ?ha ?_) | (refine' xBh (by decide) rfl rfl rfl rfl ?ha ?_) | (refine' xBi (by decide) rfl ?ha ?_) | fail); try (case ha => simp only [kP, kQ, kA, kB]; try rfl))
    refine xBo (hK _ _ ?_)
    clear hK K
    try simp only [Act.put, kA, kB, List.setIfInBounds_toArray]
    refine f_at [8] (by decide +kernel) rfl ?_
    refine f_is 8 ?_
    refine f_y rfl rfl (xBg rfl (.inl rfl) rfl) (by repeat (first | exact xAk | refine xAc (by repeat (first | exact .head _ | with_reducible assumption | apply mC)) ?_)) ?_ xCd
    simp only [Act.put, kA, kB, List.setIfInBounds_toArray]
    refine f_at [9] (by decide +kernel) rfl ?_
    refine f_is 9 ?_
    refine f_y rfl rfl (xBg rfl (.inl rfl) rfl) (by repeat (first | exact xAk | refine xAc (by repeat (first | exact .head _ | with_reducible assumption | apply mC)) ?_)) ?_ xCd
    simp only [Act.put, kA, kB, List.setIfInBounds_toArray]
    refine f_end (by decide +kernel) (fun w hR => ?_)
    simp only [Exit.then]
    refine k5 _ _ ?_
    replace hR := hR.weaken (L' := [_, _, _, _]) (List.Sublist.cons _ (List.Sublist.cons _ (List.Sublist.refl _)))
    clear K5 k5 hoD
    go_wp2_with (first | (refine' xAb hR rfl rfl rfl ?_; clear hR; intro blk w hR) | (refine' xAa hR rfl rfl inferInstance ?_; clear hR; intro blk w hR) | (refine' aFq hR rfl rfl rfl inferInstance ?_) | (refine' aGq hR rfl rfl rfl inferInstance ?_) | (refine' aHq hR rfl rfl rfl inferInstance ?_) | (refine' aIq hR rfl rfl rfl inferInstance rfl ?_; clear hR; intro w hR) | (refine' aJq hR rfl rfl rfl inferInstance rfl rfl ?_; clear hR; intro w hR) | (go_at_call 16; refine (al_wtn hR).mono ?_; clear hR; rintro e w ⟨rfl, hR⟩))
    try simp only [Act.put, kA, kB, List.setIfInBounds_toArray]
    refine cut_code (fun l tm w' => ∃ gT, ∃ curT : List Value, agree (false :: false :: false :: false :: false :: false :: false :: false :: false :: false :: false :: false :: false :: false :: false :: false :: false :: false :: false :: false :: false :: false :: false :: false :: false :: false :: false :: false :: false :: false :: false :: false :: false :: false :: false :: false :: false :: false :: false :: false :: false :: false :: false :: false :: false :: false :: false :: false :: false :: false :: false :: false :: false :: false :: true :: true :: true :: true :: true :: true :: true :: true :: true :: false :: false :: false :: false :: false :: false :: false :: false :: false :: false :: false :: false :: false :: false :: false :: false :: false :: false :: false :: false :: false :: false :: false :: false :: false :: false :: false :: false :: false :: false :: false :: false :: false :: false :: false :: false :: false :: false :: false :: false :: false :: false :: false :: false :: false :: false :: false :: false :: false :: false :: false :: false :: false :: false :: false :: false :: false :: false :: []) ((l.set 12 (.slice (some ⟨gT, 0, none⟩) 3 3)).set 13 (.int .i64 0)) tm ∧ NOwn 3 curT 3 (nF [1, 2, 3]) ∧ Rep W.heap.size W [(gT, .cells curT.toArray 24), (gW, .cells curW.toArray 24), (b4, .cells [Value.int .u64 0, .int .u64 0, .int .u64 0, .int .u64 0].toArray 24), (c2, .cells (nl 6).toArray 24), (b1, .cells (gl 0 11 0 0).toArray 26)] w') ?s1 ?s2
    case s1 =>
      intro Q' hQ'
      refine xBy hR 11 xCo rfl ?_
      clear hR
      refine xCi [(b1, .cells (gl 0 11 0 0).toArray 26)] [1, 2, 2, 2, 2, 2, 2, 2, 2, 2, 2] 10 rfl (by repeat (first | exact xAk | refine xAc (by repeat (first | exact .head _ | with_reducible assumption | apply mC)) ?_)) (by repeat (first | exact xAk | refine xAc (by repeat (first | exact .head _ | with_reducible assumption | apply mC)) ?_)) rfl (by decide +kernel) (fun K hK => ?_)
      repeat ((first | (refine' xCm rfl rfl rfl inferInstance ?hm ?hn ?ha ?_; (case hm => exact .head _); (case hn => rfl)) | (refine xBj ?_) | (refine' xAq (by decide) rfl (.inl rfl) rfl ?ha ?_) | (refine' xAq (by decide) rfl (.inr rfl) rfl ?ha ?_) | (refine' xAm rfl rfl rfl inferInstance ?hm ?hn ?ha ?_; (case hm => first | with_reducible assumption | repeat (first | exact .head _ | with_reducible assumption | apply mC)); (case hn => first | rfl | simp)) | (refine' xAi rfl rfl rfl inferInstance ?hm ?hv ?hn ?ha ?_; (case hm => first | with_reducible assumption | repeat (first | exact .head _ | with_reducible assumption | apply mC)); (case hv => first | with_reducible assumption | (simp only [kC, kD, kE, kF]; try rfl)); (case hn => first | rfl | simp)) | (refine' xAg rfl rfl rfl inferInstance ?hm ?hv ?ha ?_; (case hm => first | with_reducible assumption | repeat (first | exact .head _ | with_reducible assumption | apply mC)); (case hv => first | rfl | with_reducible assumption)) | (refine' xAj rfl rfl rfl inferInstance ?hm ?hv ?hn ?ha ?_; (case hm => first | with_reducible assumption | repeat (first | exact .head _ | with_reducible assumption | apply mC)); (case hv => first | with_reducible assumption | (simp only [kC, kD, kE, kF]; try rfl)); (case hn => first | rfl | simp)) | (refine' xAh rfl rfl rfl inferInstance ?hm ?hv ?ha ?_; (case hm => first | with_reducible assumption | repeat (first | exact .head _ | with_reducible assumption | apply mC)); (case hv => first | rfl | with_reducible assumption)) | ((first | refine' xAe (by decide) rfl rfl rfl rfl (fun w => ?hq) ?ha ?_ | refine' xAx (by decide) rfl rfl rfl rfl (fun w => ?hq) ?ha ?_ | refine' xAn (by decide) rfl rfl rfl (fun w => ?hq) ?ha ?_ | refine' xAd (by decide) rfl rfl rfl (fun w => ?hq) ?ha ?_ | refine' xAl (by decide) rfl rfl rfl (fun w => ?hq) ?ha ?_ | refine' xAz (by decide) rfl rfl rfl rfl (fun w => ?hq) ?ha ?_ | refine' xAw (by decide) rfl rfl rfl rfl rfl rfl (fun w => ?hq) ?ha ?_ | refine' xAy (by decide) rfl rfl (fun w => ?hq) ?ha ?_ | refine' xAo (by decide) rfl rfl rfl (fun w => ?hq) ?ha ?_ | refine' xBa (by decide) rfl rfl rfl (fun w => ?hq) ?ha ?_); (case hq => go_simp; try rfl)) | (refine' xAf (by decide) rfl rfl rfl ?ha ?_) | (refine' xBh (by decide) rfl rfl rfl rfl ?ha ?_) | (refine' xBi (by decide) rfl ?ha ?_)); try (case ha => simp only [kP, kQ, kA, kB]; try rfl))
      refine xBo (hK _ _ ?_)
      clear hK K
      try simp only [Act.put, kA, kB, List.setIfInBounds_toArray]
      refine f_at [1, 3] (by decide +kernel) rfl ?_
      refine f_is 1 ?_
      refine f_new rfl rfl (xCg [(0, .int .u64 1), (1, .int .u64 2), (2, .int .u64 3)] rfl rfl (u64s_3 1 2 3)) (by repeat (first | exact xAk | refine xAc (by repeat (first | exact .head _ | with_reducible assumption | apply mC)) ?_)) (fun ba => ?_) ?_
      · simp only [Act.put, kA, kB, List.setIfInBounds_toArray]
        refine f_at [2, 3] (by decide +kernel) rfl ?_
        refine f_is 2 ?_
        refine f_call (fun v M => ∃ g cap, ∃ cur : List Value, v = .slice (some ⟨g, 0, none⟩) 3 cap ∧ NOwn cap cur 3 (nF [1, 2, 3]) ∧ M = (g, .cells cur.toArray 24) :: _) rfl rfl rfl rfl rfl (xBl Try.func22 (by kernel_rfl) (by kernel_rfl) _) (fun w hw => (xCq (us := [1, 2, 3]) (by repeat (first | exact .head _ | with_reducible assumption | apply mC)) rfl (by decide) (by decide) (by decide) hw).mono fun e w' ⟨g, cap, h1, cur, h2, h3⟩ => ⟨_, h1, _, ⟨g, cap, cur, rfl, h2, rfl⟩, h3⟩) ?_ ?_
        · rintro v M ⟨gA, capA, curA, rfl, hoA, rfl⟩
          refine ⟨(by repeat (first | exact xAk | refine xAc (by repeat (first | exact .head _ | with_reducible assumption | apply mC)) ?_)), ?_⟩
          simp only [Act.put, kA, kB, List.setIfInBounds_toArray]
          refine f_at [3] (by decide +kernel) rfl ?_
          refine f_is 3 ?_
          refine f_new rfl rfl (xCg [(0, .int .u64 6), (1, .int .u64 6), (2, .int .u64 1)] rfl rfl (u64s_3 6 6 1)) (by repeat (first | exact xAk | refine xAc (by repeat (first | exact .head _ | with_reducible assumption | apply mC)) ?_)) (fun bd => ?_) xCd
          simp only [Act.put, kA, kB, List.setIfInBounds_toArray]
          refine f_at [4] (by decide +kernel) rfl ?_
          refine f_is 4 ?_
          refine f_call (fun v M => ∃ g cap, ∃ cur : List Value, v = .slice (some ⟨g, 0, none⟩) 3 cap ∧ NOwn cap cur 3 (nF [6, 6, 1]) ∧ M = (g, .cells cur.toArray 24) :: _) rfl rfl rfl rfl rfl (xBl Try.func22 (by kernel_rfl) (by kernel_rfl) _) (fun w hw => (xCq (us := [6, 6, 1]) (by repeat (first | exact .head _ | with_reducible assumption | apply mC)) rfl (by decide) (by decide) (by decide) hw).mono fun e w' ⟨g, cap, h1, cur, h2, h3⟩ => ⟨_, h1, _, ⟨g, cap, cur, rfl, h2, rfl⟩, h3⟩) ?_ xCd
          rintro v M ⟨gD, capD, curD, rfl, hoD, rfl⟩
          refine ⟨(by repeat (first | exact xAk | refine xAc (by repeat (first | exact .head _ | with_reducible assumption | apply mC)) ?_)), ?_⟩
          simp only [Act.put, kA, kB, List.setIfInBounds_toArray]
          refine f_at [5] (by decide +kernel) rfl ?_
          refine f_is 5 ?_
          refine f_call (fun v M => ∃ gb, ∃ cur : List Value, v = .tuple #[.slice (some ⟨gb, 0, none⟩) 3 3, .int .i64 0] ∧ NOwn 3 cur 3 (nF [1, 2, 3]) ∧ M = (gb, .cells cur.toArray 24) :: _) rfl rfl rfl rfl rfl (xBl Try.func11 (by kernel_rfl) (by kernel_rfl) _) (fun w hw => (al_th hoA (by repeat (first | exact .head _ | with_reducible assumption | apply mC)) hoD (by repeat (first | exact .head _ | with_reducible assumption | apply mC)) hw).mono fun e w' ⟨gb, h1, cur, h2, h3⟩ => ⟨_, h1, _, ⟨gb, cur, rfl, h2, rfl⟩, h3⟩) ?_ xCd
          rintro v M ⟨gT, curT, rfl, hoT, rfl⟩
          refine ⟨(by repeat (first | exact xAk | refine xAc (by repeat (first | exact .head _ | with_reducible assumption | apply mC)) ?_)), ?_⟩
          simp only [Act.put, kA, kB, List.setIfInBounds_toArray]
          refine f_at [6] (by decide +kernel) rfl ?_
          refine f_is 6 ?_
          refine f_y rfl rfl (xBg rfl (.inr rfl) rfl) (by repeat (first | exact xAk | refine xAc (by repeat (first | exact .head _ | with_reducible assumption | apply mC)) ?_)) ?_ xCd
          simp only [Act.put, kA, kB, List.setIfInBounds_toArray]
          (refine xCi [(b1, .cells (gl 0 11 0 0).toArray 26)] [2, 2, 2, 2, 2, 2, 2, 1, 1, 2, 2] 2 rfl (by repeat (first | exact xAk | refine xAc (by repeat (first | exact .head _ | with_reducible assumption | apply mC)) ?_)) (by repeat (first | exact xAk | refine xAc (by repeat (first | exact .head _ | with_reducible assumption | apply mC)) ?_)) rfl (by decide +kernel) (fun K hK => ?_); (repeat ((first | (refine xBj ?_) | (refine' xAq (by decide) rfl (.inl rfl) rfl ?ha ?_) | (refine' xAq (by decide) rfl (.inr rfl) rfl ?ha ?_) | (refine' xAm rfl rfl rfl inferInstance ?hm ?hn ?ha ?_; (case hm => first | with_reducible assumption | repeat (first | exact .head _ | with_reducible assumption | apply mC)); (case hn => first | rfl | simp)) | (refine' xAi rfl rfl rfl inferInstance ?hm ?hv ?hn ?ha ?_; (case hm => first | with_reducible assumption | repeat (first | exact .head _ | with_reducible assumption | apply mC)); (case hv => first | with_reducible assumption | (simp only [kC, kD, kE, kF]; try rfl)); (case hn => first | rfl | simp)) | (refine' xAg rfl rfl rfl inferInstance ?hm ?hv ?ha ?_; (case hm => first | with_reducible assumption | repeat (first | exact .head _ | with_reducible assumption | apply mC)); (case hv => first | rfl | with_reducible assumption)) | (refine' xAj rfl rfl rfl inferInstance ?hm ?hv ?hn ?ha ?_; (case hm => first | with_reducible assumption | repeat (first | exact .head _ | with_reducible assumption | apply mC)); (case hv => first | with_reducible assumption | (simp only [kC, kD, kE, kF]; try rfl)); (case hn => first | rfl | simp)) | (refine' xAh rfl rfl rfl inferInstance ?hm ?hv ?ha ?_; (case hm => first | with_reducible assumption | repeat (first | exact .head _ | with_reducible assumption | apply mC)); (case hv => first | rfl | with_reducible assumption)) | ((first | refine' xAe (by decide) rfl rfl rfl rfl (fun w => ?hq) ?ha ?_ | refine' xAx (by decide) rfl rfl rfl rfl (fun w => ?hq) ?ha ?_ | refine' xAn (by decide) rfl rfl rfl (fun w => ?hq) ?ha ?_ | refine' xAd (by decide) rfl rfl rfl (fun w => ?hq) ?ha ?_ | refine' xAl (by decide) rfl rfl rfl (fun w => ?hq) ?ha ?_ | refine' xAz (by decide) rfl rfl rfl rfl (fun w => ?hq) ?ha ?_ | refine' xAw (by decide) rfl rfl rfl rfl rfl rfl (fun w => ?hq) ?ha ?_ | refine' xAy (by decide) rfl rfl (fun w => ?hq) ?ha ?_ | refine' xAo (by decide) rfl rfl rfl (fun w => ?hq) ?ha ?_ | refine' xBa (by decide) rfl rfl rfl (fun w => ?hq) ?ha ?_); (case hq => go_simp; try rfl)) | (refine' xAf (by decide) rfl rfl rfl ?ha ?_) | (refine' xBh (by decide) rfl rfl rfl rfl ?ha ?_) | (refine' xBi (by decide) rfl ?ha ?_) | fail); try (case ha => simp only [kP, kQ, kA, kB]; try rfl))); refine xBo (hK _ _ ?_); clear hK K)
          try simp only [Act.put, kA, kB, List.setIfInBounds_toArray]
          refine f_at [9] (by decide +kernel) rfl ?_
          refine f_is 9 ?_
          refine f_y rfl rfl (xBg rfl (.inl rfl) rfl) (by repeat (first | exact xAk | refine xAc (by repeat (first | exact .head _ | with_reducible assumption | apply mC)) ?_)) ?_ xCd
          simp only [Act.put, kA, kB, List.setIfInBounds_toArray]
          refine f_at [10] (by decide +kernel) rfl ?_
          refine f_is 10 ?_
          refine f_y rfl rfl (xBg rfl (.inl rfl) rfl) (by repeat (first | exact xAk | refine xAc (by repeat (first | exact .head _ | with_reducible assumption | apply mC)) ?_)) ?_ xCd
          simp only [Act.put, kA, kB, List.setIfInBounds_toArray]
          refine f_end (by decide +kernel) (fun w hR => ?_)
          simp only [Exit.then]
          exact hQ'.out _ _ ⟨gT, curT, xBd rfl rfl rfl, hoT, hR.weaken (by repeat (first | exact List.nil_sublist _ | exact List.Sublist.refl _ | refine List.Sublist.cons_cons _ ?_ | refine List.Sublist.cons _ ?_))⟩
        · refine f_is 3 ?_
          refine f_new rfl rfl (xCg [(0, .int .u64 6), (1, .int .u64 6), (2, .int .u64 1)] rfl rfl (u64s_3 6 6 1)) (by repeat (first | exact xAk | refine xAc (by repeat (first | exact .head _ | with_reducible assumption | apply mC)) ?_)) (fun bd => ?_) xCd
          simp only [Act.put, kA, kB, List.setIfInBounds_toArray]
          refine f_at [2] (by decide +kernel) rfl ?_
          refine f_is 2 ?_
          refine f_call (fun v M => ∃ g cap, ∃ cur : List Value, v = .slice (some ⟨g, 0, none⟩) 3 cap ∧ NOwn cap cur 3 (nF [1, 2, 3]) ∧ M = (g, .cells cur.toArray 24) :: _) rfl rfl rfl rfl rfl (xBl Try.func22 (by kernel_rfl) (by kernel_rfl) _) (fun w hw => (xCq (us := [1, 2, 3]) (by repeat (first | exact .head _ | with_reducible assumption | apply mC)) rfl (by decide) (by decide) (by decide) hw).mono fun e w' ⟨g, cap, h1, cur, h2, h3⟩ => ⟨_, h1, _, ⟨g, cap, cur, rfl, h2, rfl⟩, h3⟩) ?_ xCd
          rintro v M ⟨gA, capA, curA, rfl, hoA, rfl⟩
          refine ⟨(by repeat (first | exact xAk | refine xAc (by repeat (first | exact .head _ | with_reducible assumption | apply mC)) ?_)), ?_⟩
          simp only [Act.put, kA, kB, List.setIfInBounds_toArray]
          refine f_at [4] (by decide +kernel) rfl ?_
          refine f_is 4 ?_
          refine f_call (fun v M => ∃ g cap, ∃ cur : List Value, v = .slice (some ⟨g, 0, none⟩) 3 cap ∧ NOwn cap cur 3 (nF [6, 6, 1]) ∧ M = (g, .cells cur.toArray 24) :: _) rfl rfl rfl rfl rfl (xBl Try.func22 (by kernel_rfl) (by kernel_rfl) _) (fun w hw => (xCq (us := [6, 6, 1]) (by repeat (first | exact .head _ | with_reducible assumption | apply mC)) rfl (by decide) (by decide) (by decide) hw).mono fun e w' ⟨g, cap, h1, cur, h2, h3⟩ => ⟨_, h1, _, ⟨g, cap, cur, rfl, h2, rfl⟩, h3⟩) ?_ xCd
          rintro v M ⟨gD, capD, curD, rfl, hoD, rfl⟩
          refine ⟨(by repeat (first | exact xAk | refine xAc (by repeat (first | exact .head _ | with_reducible assumption | apply mC)) ?_)), ?_⟩
          simp only [Act.put, kA, kB, List.setIfInBounds_toArray]
          refine f_at [5] (by decide +kernel) rfl ?_
          refine f_is 5 ?_
          refine f_call (fun v M => ∃ gb, ∃ cur : List Value, v = .tuple #[.slice (some ⟨gb, 0, none⟩) 3 3, .int .i64 0] ∧ NOwn 3 cur 3 (nF [1, 2, 3]) ∧ M = (gb, .cells cur.toArray 24) :: _) rfl rfl rfl rfl rfl (xBl Try.func11 (by kernel_rfl) (by kernel_rfl) _) (fun w hw => (al_th hoA (by repeat (first | exact .head _ | with_reducible assumption | apply mC)) hoD (by repeat (first | exact .head _ | with_reducible assumption | apply mC)) hw).mono fun e w' ⟨gb, h1, cur, h2, h3⟩ => ⟨_, h1, _, ⟨gb, cur, rfl, h2, rfl⟩, h3⟩) ?_ xCd
          rintro v M ⟨gT, curT, rfl, hoT, rfl⟩
          refine ⟨(by repeat (first | exact xAk | refine xAc (by repeat (first | exact .head _ | with_reducible assumption | apply mC)) ?_)), ?_⟩
          simp only [Act.put, kA, kB, List.setIfInBounds_toArray]
          refine f_at [6] (by decide +kernel) rfl ?_
          refine f_is 6 ?_
          refine f_y rfl rfl (xBg rfl (.inr rfl) rfl) (by repeat (first | exact xAk | refine xAc (by repeat (first | exact .head _ | with_reducible assumption | apply mC)) ?_)) ?_ xCd
          simp only [Act.put, kA, kB, List.setIfInBounds_toArray]
          (refine xCi [(b1, .cells (gl 0 11 0 0).toArray 26)] [2, 2, 2, 2, 2, 2, 2, 1, 1, 2, 2] 2 rfl (by repeat (first | exact xAk | refine xAc (by repeat (first | exact .head _ | with_reducible assumption | apply mC)) ?_)) (by repeat (first | exact xAk | refine xAc (by repeat (first | exact .head _ | with_reducible assumption | apply mC)) ?_)) rfl (by decide +kernel) (fun K hK => ?_); (repeat ((first | (refine xBj ?_) | (refine' xAq (by decide) rfl (.inl rfl) rfl ?ha ?_) | (refine' xAq (by decide) rfl (.inr rfl) rfl ?ha ?_) | (refine' xAm rfl rfl rfl inferInstance ?hm ?hn ?ha ?_; (case hm => first | with_reducible assumption | repeat (first | exact .head _ | with_reducible assumption | apply mC)); (case hn => first | rfl | simp)) | (refine' xAi rfl rfl rfl inferInstance ?hm ?hv ?hn ?ha ?_; (case hm => first | with_reducible assumption | repeat (first | exact .head _ | with_reducible assumption | apply mC)); (case hv => first | with_reducible assumption | (simp only [kC, kD, kE, kF]; try rfl)); (case hn => first | rfl | simp)) | (refine' xAg rfl rfl rfl inferInstance ?hm ?hv ?ha ?_; (case hm => first | with_reducible assumption | repeat (first | exact .head _ | with_reducible assumption | apply mC)); (case hv => first | rfl | with_reducible assumption)) | (refine' xAj rfl rfl rfl inferInstance ?hm ?hv ?hn ?ha ?_; (case hm => first | with_reducible assumption | repeat (first | exact .head _ | with_reducible assumption | apply mC)); (case hv => first | with_reducible assumption | (simp only [kC, kD, kE, kF]; try rfl)); (case hn => first | rfl | simp)) | (refine' xAh rfl rfl rfl inferInstance ?hm ?hv ?ha ?_; (case hm => first | with_reducible assumption | repeat (first | exact .head _ | with_reducible assumption | apply mC)); (case hv => first | rfl | with_reducible assumption)) | ((first | refine' xAe (by decide) rfl rfl rfl rfl (fun w => ?hq) ?ha ?_ | refine' xAx (by decide) rfl rfl rfl rfl (fun w => ?hq) ?ha ?_ | refine' xAn (by decide) rfl rfl rfl (fun w => ?hq) ?ha ?_ | refine' xAd (by decide) rfl rfl rfl (fun w => ?hq) ?ha ?_ | refine' xAl (by decide) rfl rfl rfl (fun w => ?hq) ?ha ?_ | refine' xAz (by decide) rfl rfl rfl rfl (fun w => ?hq) ?ha ?_ | refine' xAw (by decide) rfl rfl rfl rfl rfl rfl (fun w => ?hq) ?ha ?_ | refine' xAy (by decide) rfl rfl (fun w => ?hq) ?ha ?_ | refine' xAo (by decide) rfl rfl rfl (fun w => ?hq) ?ha ?_ | refine' xBa (by decide) rfl rfl rfl (fun w => ?hq) ?ha ?_); (case hq => go_simp; try rfl)) | (refine' xAf (by decide) rfl rfl rfl ?ha ?_) | (refine' xBh (by decide) rfl rfl rfl rfl ?ha ?_) | (refine' xBi (by decide) rfl ?ha ?_) | fail); try (case ha => simp only [kP, kQ, kA, kB]; try rfl))); refine xBo (hK _ _ ?_); clear hK K)
          try simp only [Act.put, kA, kB, List.setIfInBounds_toArray]
          refine f_at [9] (by decide +kernel) rfl ?_
          refine f_is 9 ?_
          refine f_y rfl rfl (xBg rfl (.inl rfl) rfl) (by repeat (first | exact xAk | refine xAc (by repeat (first | exact .head _ | with_reducible assumption | apply mC)) ?_)) ?_ xCd
          simp only [Act.put, kA, kB, List.setIfInBounds_toArray]
          refine f_at [10] (by decide +kernel) rfl ?_
          refine f_is 10 ?_
          refine f_y rfl rfl (xBg rfl (.inl rfl) rfl) (by repeat (first | exact xAk | refine xAc (by repeat (first | exact .head _ | with_reducible assumption | apply mC)) ?_)) ?_ xCd
          simp only [Act.put, kA, kB, List.setIfInBounds_toArray]
          refine f_end (by decide +kernel) (fun w hR => ?_)
          simp only [Exit.then]
          exact hQ'.out _ _ ⟨gT, curT, xBd rfl rfl rfl, hoT, hR.weaken (by repeat (first | exact List.nil_sublist _ | exact List.Sublist.refl _ | refine List.Sublist.cons_cons _ ?_ | refine List.Sublist.cons _ ?_))⟩
      · refine f_is 3 ?_
        refine f_new rfl rfl (xCg [(0, .int .u64 6), (1, .int .u64 6), (2, .int .u64 1)] rfl rfl (u64s_3 6 6 1)) (by repeat (first | exact xAk | refine xAc (by repeat (first | exact .head _ | with_reducible assumption | apply mC)) ?_)) (fun bd => ?_) xCd
        simp only [Act.put, kA, kB, List.setIfInBounds_toArray]
        refine f_at [1] (by decide +kernel) rfl ?_
        refine f_is 1 ?_
        refine f_new rfl rfl (xCg [(0, .int .u64 1), (1, .int .u64 2), (2, .int .u64 3)] rfl rfl (u64s_3 1 2 3)) (by repeat (first | exact xAk | refine xAc (by repeat (first | exact .head _ | with_reducible assumption | apply mC)) ?_)) (fun ba => ?_) xCd
        simp only [Act.put, kA, kB, List.setIfInBounds_toArray]
        refine f_at [2] (by decide +kernel) rfl ?_
        refine f_is 2 ?_
        refine f_call (fun v M => ∃ g cap, ∃ cur : List Value, v = .slice (some ⟨g, 0, none⟩) 3 cap ∧ NOwn cap cur 3 (nF [1, 2, 3]) ∧ M = (g, .cells cur.toArray 24) :: _) rfl rfl rfl rfl rfl (xBl Try.func22 (by kernel_rfl) (by kernel_rfl) _) (fun w hw => (xCq (us := [1, 2, 3]) (by repeat (first | exact .head _ | with_reducible assumption | apply mC)) rfl (by decide) (by decide) (by decide) hw).mono fun e w' ⟨g, cap, h1, cur, h2, h3⟩ => ⟨_, h1, _, ⟨g, cap, cur, rfl, h2, rfl⟩, h3⟩) ?_ xCd
        rintro v M ⟨gA, capA, curA, rfl, hoA, rfl⟩
        refine ⟨(by repeat (first | exact xAk | refine xAc (by repeat (first | exact .head _ | with_reducible assumption | apply mC)) ?_)), ?_⟩
        simp only [Act.put, kA, kB, List.setIfInBounds_toArray]
        refine f_at [4] (by decide +kernel) rfl ?_
        refine f_is 4 ?_
        refine f_call (fun v M => ∃ g cap, ∃ cur : List Value, v = .slice (some ⟨g, 0, none⟩) 3 cap ∧ NOwn cap cur 3 (nF [6, 6, 1]) ∧ M = (g, .cells cur.toArray 24) :: _) rfl rfl rfl rfl rfl (xBl Try.func22 (by kernel_rfl) (by kernel_rfl) _) (fun w hw => (xCq (us := [6, 6, 1]) (by repeat (first | exact .head _ | with_reducible assumption | apply mC)) rfl (by decide) (by decide) (by decide) hw).mono fun e w' ⟨g, cap, h1, cur, h2, h3⟩ => ⟨_, h1, _, ⟨g, cap, cur, rfl, h2, rfl⟩, h3⟩) ?_ xCd
        rintro v M ⟨gD, capD, curD, rfl, hoD, rfl⟩
        refine ⟨(by repeat (first | exact xAk | refine xAc (by repeat (first | exact .head _ | with_reducible assumption | apply mC)) ?_)), ?_⟩
        simp only [Act.put, kA, kB, List.setIfInBounds_toArray]
        refine f_at [5] (by decide +kernel) rfl ?_
        refine f_is 5 ?_
        refine f_call (fun v M => ∃ gb, ∃ cur : List Value, v = .tuple #[.slice (some ⟨gb, 0, none⟩) 3 3, .int .i64 0] ∧ NOwn 3 cur 3 (nF [1, 2, 3]) ∧ M = (gb, .cells cur.toArray 24) :: _) rfl rfl rfl rfl rfl (xBl Try.func11 (by kernel_rfl) (by kernel_rfl) _) (fun w hw => (al_th hoA (by repeat (first | exact .head _ | with_reducible assumption | apply mC)) hoD (by repeat (first | exact .head _ | with_reducible assumption | apply mC)) hw).mono fun e w' ⟨gb, h1, cur, h2, h3⟩ => ⟨_, h1, _, ⟨gb, cur, rfl, h2, rfl⟩, h3⟩) ?_ xCd
        rintro v M ⟨gT, curT, rfl, hoT, rfl⟩
        refine ⟨(by repeat (first | exact xAk | refine xAc (by repeat (first | exact .head _ | with_reducible assumption | apply mC)) ?_)), ?_⟩
        simp only [Act.put, kA, kB, List.setIfInBounds_toArray]
        refine f_at [6] (by decide +kernel) rfl ?_
        refine f_is 6 ?_
        refine f_y rfl rfl (xBg rfl (.inr rfl) rfl) (by repeat (first | exact xAk | refine xAc (by repeat (first | exact .head _ | with_reducible assumption | apply mC)) ?_)) ?_ xCd
        simp only [Act.put, kA, kB, List.setIfInBounds_toArray]
        (refine xCi [(b1, .cells (gl 0 11 0 0).toArray 26)] [2, 2, 2, 2, 2, 2, 2, 1, 1, 2, 2] 2 rfl (by repeat (first | exact xAk | refine xAc (by repeat (first | exact .head _ | with_reducible assumption | apply mC)) ?_)) (by repeat (first | exact xAk | refine xAc (by repeat (first | exact .head _ | with_reducible assumption | apply mC)) ?_)) rfl (by decide +kernel) (fun K hK => ?_); (repeat ((first | (refine xBj ?_) | (refine' xAq (by decide) rfl (.inl rfl) rfl ?ha ?_) | (refine' xAq (by decide) rfl (.inr rfl) rfl ?ha ?_) | (refine' xAm rfl rfl rfl inferInstance ?hm ?hn ?ha ?_; (case hm => first | with_reducible assumption | repeat (first | exact .head _ | with_reducible assumption | apply mC)); (case hn => first | rfl | simp)) | (refine' xAi rfl rfl rfl inferInstance ?hm ?hv ?hn ?ha ?_; (case hm => first | with_reducible assumption | repeat (first | exact .head _ | with_reducible assumption | apply mC)); (case hv => first | with_reducible assumption | (simp only [kC, kD, kE, kF]; try rfl)); (case hn => first | rfl | simp)) | (refine' xAg rfl rfl rfl inferInstance ?hm ?hv ?ha ?_; (case hm => first | with_reducible assumption | repeat (first | exact .head _ | with_reducible assumption | apply mC)); (case hv => first | rfl | with_reducible assumption)) | (refine' xAj rfl rfl rfl inferInstance ?hm ?hv ?hn ?ha ?_; (case hm => first | with_reducible assumption | repeat (first | exact .head _ | with_reducible assumption | apply mC)); (case hv => first | with_reducible assumption | (simp only [kC, kD, kE, kF]; try rfl)); (case hn => first | rfl | simp)) | (refine' xAh rfl rfl rfl inferInstance ?hm ?hv ?ha ?_; (case hm => first | with_reducible assumption | repeat (first | exact .head _ | with_reducible assumption | apply mC)); (case hv => first | rfl | with_reducible assumption)) | ((first | refine' xAe (by decide) rfl rfl rfl rfl (fun w => ?hq) ?ha ?_ | refine' xAx (by decide) rfl rfl rfl rfl (fun w => ?hq) ?ha ?_ | refine' xAn (by decide) rfl rfl rfl (fun w => ?hq) ?ha ?_ | refine' xAd (by decide) rfl rfl rfl (fun w => ?hq) ?ha ?_ | refine' xAl (by decide) rfl rfl rfl (fun w => ?hq) ?ha ?_ | refine' xAz (by decide) rfl rfl rfl rfl (fun w => ?hq) ?ha ?_ | refine' xAw (by decide) rfl rfl rfl rfl rfl rfl (fun w => ?hq) ?ha ?_ | refine' xAy (by decide) rfl rfl (fun w => ?hq) ?ha ?_ | refine' xAo (by decide) rfl rfl rfl (fun w => ?hq) ?ha ?_ | refine' xBa (by decide) rfl rfl rfl (fun w => ?hq) ?ha ?_); (case hq => go_simp; try rfl)) | (refine' xAf (by decide) rfl rfl rfl ?ha ?_) | (refine' xBh (by decide) rfl rfl rfl rfl ?ha ?_) | (refine' xBi (by decide) rfl ?ha ?_) | fail); try (case ha => simp only [kP, kQ, kA, kB]; try rfl))); refine xBo (hK _ _ ?_); clear hK K)
        try simp only [Act.put, kA, kB, List.setIfInBounds_toArray]
        refine f_at [9] (by decide +kernel) rfl ?_
        refine f_is 9 ?_
        refine f_y rfl rfl (xBg rfl (.inl rfl) rfl) (by repeat (first | exact xAk | refine xAc (by repeat (first | exact .head _ | with_reducible assumption | apply mC)) ?_)) ?_ xCd
        simp only [Act.put, kA, kB, List.setIfInBounds_toArray]
        refine f_at [10] (by decide +kernel) rfl ?_
        refine f_is 10 ?_
        refine f_y rfl rfl (xBg rfl (.inl rfl) rfl) (by repeat (first | exact xAk | refine xAc (by repeat (first | exact .head _ | with_reducible assumption | apply mC)) ?_)) ?_ xCd
        simp only [Act.put, kA, kB, List.setIfInBounds_toArray]
        refine f_end (by decide +kernel) (fun w hR => ?_)
        simp only [Exit.then]
        exact hQ'.out _ _ ⟨gT, curT, xBd rfl rfl rfl, hoT, hR.weaken (by repeat (first | exact List.nil_sublist _ | exact List.Sublist.refl _ | refine List.Sublist.cons_cons _ ?_ | refine List.Sublist.cons _ ?_))⟩
    case s2 =>
      clear hR
      rename_i K5 k5
      rintro tm w ⟨gT, curT, ht, hoT, hR⟩
      repeat (first | (obtain ⟨x, tm', e, ht'⟩ := xAr ht; clear ht; subst e; have ht := ht'; clear ht') | (obtain ⟨tm', e, ht'⟩ := xAp ht; clear ht; subst e; have ht := ht'; clear ht'))
      obtain rfl := xAu ht
      clear ht
      simp only [Exit.then]
      refine k5 _ _ ?_
      clear K5 k5 b11 b5 b2 bg11
      go_wp2_with (first | (refine' xAb hR rfl rfl rfl ?_; clear hR; intro blk w hR) | (refine' xAa hR rfl rfl inferInstance ?_; clear hR; intro blk w hR) | (refine' aFq hR rfl rfl rfl inferInstance ?_) | (refine' aGq hR rfl rfl rfl inferInstance ?_) | (refine' aHq hR rfl rfl rfl inferInstance ?_) | (refine' aIq hR rfl rfl rfl inferInstance rfl ?_; clear hR; intro w hR) | (refine' aJq hR rfl rfl rfl inferInstance rfl rfl ?_; clear hR; intro w hR) | (refine' xBk hR rfl rfl rfl inferInstance ?hm ?hn ?_; (case hm => first | with_reducible assumption | repeat (first | exact .head _ | with_reducible assumption | apply mC)); (case hn => first | rfl | simp)) | (refine' xBe hR rfl rfl rfl inferInstance ?hm ?hv ?_; (case hm => first | with_reducible assumption | repeat (first | exact .head _ | with_reducible assumption | apply mC)); (case hv => first | rfl | with_reducible assumption)) | (refine' wpList_build1W rfl rfl rfl bu4 ?_) | (refine' wpList_build1W rfl rfl rfl bu6 ?_) | (refine' wpList_build1W rfl rfl rfl bg4 ?_) | (refine' wpList_consts [(0, .int .u64 0), (1, .int .u64 2)] hR rfl rfl (u64s_2 0 2) ?_; clear hR; intro bt w hR) | (refine' wpList_consts [(0, .int .u64 1), (1, .int .u64 1)] hR rfl rfl (u64s_2 1 1) ?_; clear hR; intro bt w hR) | (refine' wpList_consts [(0, .int .u64 2), (1, .int .u64 10)] hR rfl rfl (u64s_2 2 10) ?_; clear hR; intro bt w hR) | (refine' wpList_consts [(0, .int .u64 1), (1, .int .u64 2), (2, .int .u64 3)] hR rfl rfl (u64s_3 1 2 3) ?_; clear hR; intro bt w hR) | (go_at_call 22; refine (xCq (us := [0, 2]) (.head _) rfl (by decide) (by decide) (by decide) hR).mono ?_; clear hR; rintro e w ⟨gE, capE, rfl, curE, hoE, hR⟩) | (go_at_call 22; refine (xCq (us := [1, 1]) (.head _) rfl (by decide) (by decide) (by decide) hR).mono ?_; clear hR; rintro e w ⟨gF, capF, rfl, curF, hoF, hR⟩) | (go_at_call 22; refine (xCq (us := [2, 10]) (.head _) rfl (by decide) (by decide) (by decide) hR).mono ?_; clear hR; rintro e w ⟨gG, capG, rfl, curG, hoG, hR⟩) | (go_at_call 22; refine (xCq (us := [1, 2, 3]) (.head _) rfl (by decide) (by decide) (by decide) hR).mono ?_; clear hR; rintro e w ⟨gH, capH, rfl, curH, hoH, hR⟩) | (go_at_call 11; refine (al_thf hoE (by repeat (first | exact .head _ | with_reducible assumption | apply mC)) hoF (by repeat (first | exact .head _ | with_reducible assumption | apply mC)) hR).mono ?_; clear hR; rintro e w ⟨rfl, hR⟩) | (go_at_call 12; refine (al_same (by decide) (nF_all rfl (by decide)) hoW (by repeat (first | exact .head _ | with_reducible assumption | apply mC)) hoG (by repeat (first | exact .head _ | with_reducible assumption | apply mC)) hR).mono ?_; clear hR; rintro e w ⟨rfl, hR⟩) | (go_at_call 12; refine (al_same (by decide) (nF_all rfl (by decide)) hoT (by repeat (first | exact .head _ | with_reducible assumption | apply mC)) hoH (by repeat (first | exact .head _ | with_reducible assumption | apply mC)) hR).mono ?_; clear hR; rintro e w ⟨rfl, hR⟩))
      go_ret
      exact ⟨rfl, hR.below⟩
end Go.Proofs.Ytgfoeongjhkdmaa
