/- The contracts of shas.New, (*Sum).Write, shas.Of. -/
import Derived.Test.YtgfoeongjhkdmaaGreatRShaHash
import Derived.ChangeKeysEq
import Derived.ChangeSlices
import Derived.ProofKit
import Derived.OpenShut
import Derived.Deep.Matrix
import Derived.SizedLaws
import Derived.Test.YtgfoeongjhkdmaaGreatRWeights
set_option linter.unusedVariables false
set_option linter.unusedSimpArgs false
namespace Go.Proofs.YtgfoeongjhkdmaaGreat
open Go.RowKit
attribute [local irreducible] Calls
instance inShaOf1 : CellT Tryz.prog 89 := .mk' (by kernel_rfl) (by kernel_rfl)
def xBo (B0 : Nat) (w0 : World) (L : List (Nat × Obj)) (v : Value) (xs : List Nat) : Prop := ∃ a cap, v = .slice a xs.length cap ∧ xs.length ≤ cap ∧ cap ≤ maxLen ∧ (∀ j, xs.getD j 0 < 256) ∧
  (xs ≠ [] → ∃ bb off, a = some ⟨bb, off, none⟩ ∧ ∀ w, Rep B0 w0 L w → ∀ j, j < xs.length → w.cell? ⟨bb, off + j, none⟩ = some (.int .u8 (xs.getD j 0 : Nat)))
theorem xBo.mono {B0 : Nat} {w0 : World} {L L' : List (Nat × Obj)} {v : Value} {xs : List Nat} (h : xBo B0 w0 L v xs) (hL : ∀ w, Rep B0 w0 L' w → Rep B0 w0 L w) : xBo B0 w0 L' v xs := by
  obtain ⟨a, cap, h1, h2, h3, h4, h5⟩ := h
  exact ⟨a, cap, h1, h2, h3, h4, fun hx => by
    obtain ⟨bb, off, h6, h7⟩ := h5 hx
    exact ⟨bb, off, h6, fun w hw => h7 w (hL w hw)⟩⟩
theorem xBo.more {B0 : Nat} {w0 : World} {L : List (Nat × Obj)} {p : Nat × Obj} {v : Value} {xs : List Nat} (h : xBo B0 w0 L v xs) : xBo B0 w0 (p :: L) v xs := h.mono fun w hw => hw.drop1
section
variable {B0 : Nat} {w0 w : World} {L : List (Nat × Obj)}
set_option maxRecDepth 100000 in
set_option maxHeartbeats 1000000 in
theorem writes_none (p : Option Addr) (a : Option Addr) (cap : Nat) (hR : Rep B0 w0 L w) : Calls Tryz.prog 105 #[.pointer p, .slice a 0 cap] w fun e w' => e = .returned (.tuple #[]) ∧ Rep B0 w0 L w' := by
  go_enter Tryz.func105, Tryz.ntmps105
  go_wp2_with (first | (refine' xAb hR rfl rfl rfl ?_; clear hR; intro blk w hR) | (refine' xAa hR rfl rfl inferInstance ?_; clear hR; intro blk w hR) | (refine' aAq hR rfl rfl rfl inferInstance ?_) | (refine' aBq hR rfl rfl rfl inferInstance ?_) | (refine' aCq hR rfl rfl rfl inferInstance ?_) | (refine' aDq hR rfl rfl rfl inferInstance rfl ?_; clear hR; intro w hR) | (refine' aEq hR rfl rfl rfl inferInstance rfl rfl ?_; clear hR; intro w hR) | fail)
  refine wp_loop_rounds 1 ?_
  rw [rounds_succ]
  go_wp2_with (first | (refine' xAb hR rfl rfl rfl ?_; clear hR; intro blk w hR) | (refine' xAa hR rfl rfl inferInstance ?_; clear hR; intro blk w hR) | (refine' aAq hR rfl rfl rfl inferInstance ?_) | (refine' aBq hR rfl rfl rfl inferInstance ?_) | (refine' aCq hR rfl rfl rfl inferInstance ?_) | (refine' aDq hR rfl rfl rfl inferInstance rfl ?_; clear hR; intro w hR) | (refine' aEq hR rfl rfl rfl inferInstance rfl rfl ?_; clear hR; intro w hR) | fail)
  go_end0
  exact ⟨rfl, hR⟩
theorem writes_any (sb : Nat) (m xs : List Nat) (r : Nat → Nat) (v : Value) (hr : xDm m r) (hbig : m.length + xs.length < 1000000000000) (hv : xBo B0 w0 L v xs) (hR : Rep B0 w0 ((sb, sumC m r) :: L) w) :
    Calls Tryz.prog 105 #[.pointer (some ⟨sb, 0, none⟩), v] w fun e w' => e = .returned (.tuple #[]) ∧ ∃ r', xDm (m ++ xs) r' ∧ Rep B0 w0 ((sb, sumC (m ++ xs) r') :: L) w' := by
  obtain ⟨a, cap, rfl, h2, h3, h4, h5⟩ := hv
  by_cases hx : xs = []
  · subst hx
    rw [List.append_nil]
    exact (writes_none _ a cap hR).mono fun e w' ⟨he, hR'⟩ => ⟨he, r, hr, hR'⟩
  · obtain ⟨bb, off, rfl, h6⟩ := h5 hx
    exact writes_some sb m xs r bb off cap h4 hr hbig h2 h3 hR h6
set_option maxRecDepth 100000 in
set_option maxHeartbeats 1000000 in
theorem write_any (sb : Nat) (m xs : List Nat) (r : Nat → Nat) (v : Value) (hr : xDm m r) (hbig : m.length + xs.length < 1000000000000) (hv : xBo B0 w0 L v xs) (hR : Rep B0 w0 ((sb, sumC m r) :: L) w) :
    Calls Tryz.prog 85 #[.pointer (some ⟨sb, 0, none⟩), v] w fun e w' => e = .returned (.int .i64 0) ∧ ∃ r', xDm (m ++ xs) r' ∧ Rep B0 w0 ((sb, sumC (m ++ xs) r') :: L) w' := by
  have cw := fun (w : World) (hw : Rep B0 w0 ((sb, sumC m r) :: L) w) => writes_any sb m xs r v hr hbig hv hw
  have s0 := sumL_made (xBv m (m.length / 64)) r m.length
  go_enter Tryz.func85, Tryz.ntmps85
  go_wp2_with (first | (refine' xAb hR rfl rfl rfl ?_; clear hR; intro blk w hR) | (refine' xAa hR rfl rfl inferInstance ?_; clear hR; intro blk w hR) | (refine' aAq hR rfl rfl rfl inferInstance ?_) | (refine' aBq hR rfl rfl rfl inferInstance ?_) | (refine' aCq hR rfl rfl rfl inferInstance ?_) | (refine' aDq hR rfl rfl rfl inferInstance rfl ?_; clear hR; intro w hR) | (refine' aEq hR rfl rfl rfl inferInstance rfl rfl ?_; clear hR; intro w hR) | (refine' xAy hR rfl rfl rfl inferInstance ?hm ?hn ?_; (case hm => first | with_reducible assumption | repeat (first | exact .head _ | apply mT)); (case hn => first | rfl | simp)) | (refine' xAt hR rfl rfl rfl inferInstance ?hm ?hv ?_; (case hm => first | with_reducible assumption | repeat (first | exact .head _ | apply mT)); (case hv => first | rfl | with_reducible assumption)) | (go_at_call 105; refine (cw _ hR).mono ?_; clear hR; rintro e w ⟨rfl, r', htl, hR⟩))
  go_ret
  exact ⟨rfl, r', htl, hR⟩
theorem wpList_build2 {P : Program} {ops : Array Oper} {rest : List Oper} {o : Oper} {a : Act} {w : World} {Q : Exit → Act → World → Prop} (hg : o.guard = none) {t : TypeId} {x y : Operand} (hop : o.op = .build t #[(0, x), (1, y)]) {vx vy v : Value} (hx : ev a x = some vx) (hy : ev a y = some vy)
    (hrun : ∀ w, (Instr.build t #[(0, vx), (1, vy)]).run P w = .ok v w) (h : wpList P ops Q rest (a.put o.dst v) w) : wpList P ops Q (o :: rest) a w :=
  wpList_plain hg fun _ hK => by
    have hx := xBt hx
    have hy := xBt hy
    unfold Oper.wp execOp
    simp only [hop, List.map_toArray, List.map_cons, List.map_nil, hx, hy, hrun, Sem.run_bind, Result.andThen_ok, Sem.run_pure]
    exact hK _ _ h
theorem new_build (w : World) : (Instr.build 116 #[(0, .int .i64 1), (1, .agg (s8L beginN).toArray)]).run Tryz.prog w = .ok (.agg (sumL beginN (fun _ => 0) 0).toArray) w := by
  rw [xDd, xCu]; kernel_rfl
theorem tail_nil : xDm [] fun _ => 0 := ⟨fun _ => (by decide : 0 < 256), fun j hj => (by simp at hj)⟩
set_option maxRecDepth 100000 in
set_option maxHeartbeats 1000000 in
theorem new_any (hR : Rep B0 w0 L w) : Calls Tryz.prog 84 #[] w fun e w' => ∃ sb, e = .returned (.pointer (some ⟨sb, 0, none⟩)) ∧ Rep B0 w0 ((sb, sumC [] fun _ => 0) :: L) w' := by
  have cb := fun w => begin_any w
  have hb := new_build
  have e0 : sumC [] (fun _ => 0) = .cells (sumL beginN (fun _ => 0) 0).toArray 116 := rfl
  rw [e0]
  clear e0
  generalize s8L beginN = sl at *
  generalize sumL beginN (fun _ => 0) 0 = su at *
  go_enter Tryz.func84, Tryz.ntmps84
  go_wp2_with (first | (refine' xAb hR rfl rfl rfl ?_; clear hR; intro blk w hR) | (refine' xAa hR rfl rfl inferInstance ?_; clear hR; intro blk w hR) | (refine' aAq hR rfl rfl rfl inferInstance ?_) | (refine' aBq hR rfl rfl rfl inferInstance ?_) | (refine' aCq hR rfl rfl rfl inferInstance ?_) | (refine' aDq hR rfl rfl rfl inferInstance rfl ?_; clear hR; intro w hR) | (refine' aEq hR rfl rfl rfl inferInstance rfl rfl ?_; clear hR; intro w hR) | (go_at_call 104; refine (cb _).mono ?_; rintro e w ⟨rfl, hb⟩; replace hR := hR.call hb; clear hb) | (refine' wpList_build2 rfl rfl rfl rfl hb ?_))
  go_ret
  exact ⟨_, rfl, hR⟩
end
end Go.Proofs.YtgfoeongjhkdmaaGreat
namespace Go.Proofs.YtgfoeongjhkdmaaGreat
open Go.RowKit
attribute [local irreducible] Calls
theorem cells_u8 : Tryz.prog.cellsOf 5 = 1 := by kernel_rfl
noncomputable def eqH : (Nat → Nat) → (Nat → Nat) → Bool := opq fun f g => decide (∀ j, j ∈ List.range 32 → f j = g j)
theorem eqH_def (f g : Nat → Nat) : eqH f g = decide (∀ j, j ∈ List.range 32 → f j = g j) := by unfold eqH; rw [xCe]
@[go_sem] theorem equalIn_hash (f g : Nat → Nat) (w : World) : (Op.equalIn 10000 28 (.agg (u8s 32 f).toArray) (.agg (u8s 32 g).toArray)).run Tryz.prog w = .ok (eqH f g) w := by
  have hp : ∀ (x : Nat → Nat) i, i < 32 → (part 5 (u8s 32 x).toArray i).run Tryz.prog w = .ok (.int .u8 (x i : Int)) w := fun x i hi => by
    have hagg : (isAgg 5).run Tryz.prog w = .ok false w := by
      unfold isAgg
      rw [Sem.run_bind, run_underlying Tryz.underlying5 w]
      rfl
    unfold part
    rw [Sem.run_bind, hagg]
    simp only [Result.andThen_ok, Bool.false_eq_true, if_false, List.getElem?_toArray, u8s_at hi]
    rfl
  have ho : ∃ i, Tryz.prog.info? 5 = some i := by
    cases h : Tryz.prog.info? 5 with
    | some i => exact ⟨i, rfl⟩
    | none => exact absurd (show (Tryz.prog.info? 5).isSome = true by kernel_rfl) (by rw [h]; decide)
  obtain ⟨i, hi⟩ := ho
  have hu : Tryz.prog.underlying 28 = some (.array 32 5) := Tryz.underlying28
  rw [show (10000 : Nat) = 9999 + 1 from rfl, run_equalIn_array w 9999 (u8s 32 f).toArray (u8s 32 g).toArray hu hi, cells_u8]
  have he : ∀ x y : Int, (Op.equalIn 9999 5 (.int .u8 x) (.int .u8 y)).run Tryz.prog w = .ok (x == y) w := fun x y => run_equalIn_int w 9998 5 .u8 .u8 x y Tryz.underlying5
  have key : ∀ is : List Nat, (∀ j, j ∈ is → j < 32) → (Op.eqItems 9999 5 1 (u8s 32 f).toArray (u8s 32 g).toArray is).run Tryz.prog w = .ok (decide (∀ j, j ∈ is → f j = g j)) w := by
    intro is
    induction is with
    | nil => intro _; simp [Op.eqItems]
    | cons j r ih =>
      intro hj
      have hj0 := hj j (.head _)
      have ih := ih fun k hk => hj k (.tail _ hk)
      simp only [Op.eqItems, Nat.mul_one, Sem.run_bind, hp f j hj0, hp g j hj0, Result.andThen_ok, he]
      by_cases e : f j = g j
      · simp [e, ih]
      · have : ¬ ((f j : Int) = (g j : Int)) := by omega
        simp [e, this]
  rw [key (List.range 32) (fun j hj => List.mem_range.1 hj), eqH_def]
end Go.Proofs.YtgfoeongjhkdmaaGreat
namespace Go.Proofs.YtgfoeongjhkdmaaGreat
open Go.RowKit
attribute [local irreducible] Calls
noncomputable def hashF (m : List Nat) : Nat → Nat := opq fun i => (hashN m).getD i 0
theorem hashF_eq (m : List Nat) : hashF m = fun i => (hashN m).getD i 0 := by unfold hashF; rw [xCe]
theorem hashF_lt (m : List Nat) (i : Nat) : hashF m i < 256 := by
  rw [hashF_eq]
  show (hashN m).getD i 0 < 256
  unfold hashN bytesN
  rw [List.getD_eq_getElem?_getD, List.getElem?_map]
  cases h : (List.range 32)[i]? with
  | none => exact (by decide : 0 < 256)
  | some j => exact Nat.mod_lt _ (by decide)
section
variable {P : Program} {ops : Array Oper} {rest : List Oper} {o : Oper} {a : Act} {w w0 : World} {Q : Exit → Act → World → Prop} {B0 : Nat} {L : List (Nat × Obj)}
theorem hash_F (sb : Nat) (m : List Nat) (r : Nat → Nat) (hr : xDm m r) (hbig : m.length < 100000000000) (hR : Rep B0 w0 ((sb, sumC m r) :: L) w) :
    Calls Tryz.prog 88 #[.pointer (some ⟨sb, 0, none⟩)] w fun e w' => e = .returned (.agg (u8s 32 (hashF m)).toArray) ∧ Rep B0 w0 ((sb, sumC m r) :: L) w' := by
  rw [hashF_eq]; exact hash_any sb m r hr hbig hR
theorem sliceOf_nil : xBo B0 w0 L (.slice none 0 0) [] := ⟨none, 0, rfl, Nat.le_refl _, Nat.zero_le _, fun _ => (by decide : 0 < 256), fun h => absurd rfl h⟩
end
end Go.Proofs.YtgfoeongjhkdmaaGreat
namespace Go.Proofs.YtgfoeongjhkdmaaGreat
open Go.RowKit Go.ChangeShapes
end Go.Proofs.YtgfoeongjhkdmaaGreat
namespace Go.Proofs.YtgfoeongjhkdmaaGreat
open Go.RowKit Go.ChangeShapes
def RowsOf (B0 : Nat) (w0 : World) (L : List (Nat × Obj)) (v : Value) (xss : List (List Nat)) : Prop := ∃ a cap, ∃ V : Nat → Value, v = .slice a xss.length cap ∧ xss.length ≤ cap ∧ cap ≤ maxLen ∧
  (∀ j, j < xss.length → xBo B0 w0 L (V j) (xss.getD j []) ∧ (xss.getD j []).length ≤ reachBytes) ∧
  (xss ≠ [] → ∃ bb off, a = some ⟨bb, off, none⟩ ∧ ∀ w, Rep B0 w0 L w → ∀ j, j < xss.length → w.cell? ⟨bb, off + j, none⟩ = some (V j))
theorem addr_none (bb off j : Nat) : ((⟨bb, off, none⟩ : Addr).add j) = ⟨bb, off + j, none⟩ := by
  unfold Addr.add; split <;> simp_all
theorem RowsOf.mono {B0 : Nat} {w0 : World} {L L' : List (Nat × Obj)} {v : Value} {xss : List (List Nat)} (h : RowsOf B0 w0 L v xss) (hL : ∀ w, Rep B0 w0 L' w → Rep B0 w0 L w) : RowsOf B0 w0 L' v xss := by
  obtain ⟨a, cap, V, h1, h2, h3, h4, h5⟩ := h
  exact ⟨a, cap, V, h1, h2, h3, fun j hj => ⟨(h4 j hj).1.mono hL, (h4 j hj).2⟩, fun hx => by
    obtain ⟨bb, off, h6, h7⟩ := h5 hx
    exact ⟨bb, off, h6, fun w hw => h7 w (hL w hw)⟩⟩
theorem RowsOf.any {B0 : Nat} {w0 : World} {L : List (Nat × Obj)} {v : Value} {xss : List (List Nat)} (h : RowsOf B0 w0 [] v xss) : RowsOf B0 w0 L v xss := h.mono fun w hw => hw.weaken (List.nil_sublist _)
end Go.Proofs.YtgfoeongjhkdmaaGreat
