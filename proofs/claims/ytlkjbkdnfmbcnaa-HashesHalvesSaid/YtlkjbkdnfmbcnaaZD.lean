/- The contracts of shas.New, (*Sum).Write, shas.Of. -/
import Derived.Test.YtlkjbkdnfmbcnaaZShaHash
import Derived.ChangeKeysEq
import Derived.ChangeSlices
import Derived.ProofKit
import Derived.OpenShut
import Derived.Deep.Matrix
import Derived.SizedLaws
set_option linter.unusedSimpArgs false
set_option linter.unusedVariables false
namespace Go.Proofs.Ytlkjbkdnfmbcnaa
open Go.RowKit
attribute [local irreducible] Calls

instance inShaOf1 : CellT Try.prog 60 := .mk' (by kernel_rfl) (by kernel_rfl)
/-- Bytes as a slice, in every world of the class. -/
def SliceOf (B0 : Nat) (w0 : World) (L : List (Nat × Obj)) (v : Value) (xs : List Nat) : Prop := ∃ a cap, v = .slice a xs.length cap ∧ xs.length ≤ cap ∧ cap ≤ maxLen ∧ (∀ j, xs.getD j 0 < 256) ∧
  (xs ≠ [] → ∃ bb off, a = some ⟨bb, off, none⟩ ∧ ∀ w, Rep B0 w0 L w → ∀ j, j < xs.length → w.cell? ⟨bb, off + j, none⟩ = some (.int .u8 (xs.getD j 0 : Nat)))
theorem SliceOf.mono {B0 : Nat} {w0 : World} {L L' : List (Nat × Obj)} {v : Value} {xs : List Nat} (h : SliceOf B0 w0 L v xs) (hL : ∀ w, Rep B0 w0 L' w → Rep B0 w0 L w) : SliceOf B0 w0 L' v xs := by
  obtain ⟨a, cap, h1, h2, h3, h4, h5⟩ := h
  exact ⟨a, cap, h1, h2, h3, h4, fun hx => by
    obtain ⟨bb, off, h6, h7⟩ := h5 hx
    exact ⟨bb, off, h6, fun w hw => h7 w (hL w hw)⟩⟩
theorem SliceOf.more {B0 : Nat} {w0 : World} {L : List (Nat × Obj)} {p : Nat × Obj} {v : Value} {xs : List Nat} (h : SliceOf B0 w0 L v xs) : SliceOf B0 w0 (p :: L) v xs := h.mono fun w hw => hw.drop1

section
variable {B0 : Nat} {w0 w : World} {L : List (Nat × Obj)}
set_option maxRecDepth 100000 in
set_option maxHeartbeats 1000000 in
theorem writes_none (p : Option Addr) (a : Option Addr) (cap : Nat) (hR : Rep B0 w0 L w) : Calls Try.prog 39 #[.pointer p, .slice a 0 cap] w fun e w' => e = .returned (.tuple #[]) ∧ Rep B0 w0 L w' := by
  go_enter Try.func39, Try.ntmps39
  go_wp2_with (first | (refine' wpList_boxRep hR rfl rfl rfl ?_; clear hR; intro blk w hR) | (refine' wpList_allocRep hR rfl rfl inferInstance ?_; clear hR; intro blk w hR) | (refine' wpList_loadAll hR rfl rfl rfl inferInstance ?hm ?hn ?_; (case hm => first | with_reducible assumption | repeat (first | exact .head _ | apply List.Mem.tail)); (case hn => first | rfl | (simp; done))) | (refine' wpList_loadRow hR rfl rfl rfl inferInstance ?hm ?hv ?hn ?_; (case hm => first | with_reducible assumption | repeat (first | exact .head _ | apply List.Mem.tail)); (case hv => first | with_reducible assumption | (simp only [kC, kD, kE, kF]; first | done | rfl)); (case hn => first | rfl | (simp; done))) | (refine' wpList_loadCell hR rfl rfl rfl inferInstance ?hm ?hv ?_; (case hm => first | with_reducible assumption | repeat (first | exact .head _ | apply List.Mem.tail)); (case hv => first | rfl | with_reducible assumption)) | (refine' wpList_storeAll hR rfl rfl rfl inferInstance rfl ?hs ?zone ?zvn ?hn ?_; (case hs => repeat (first | exact SetAt.head | apply SetAt.tail)); (case zone => first | rfl | with_reducible assumption); (case zvn => first | rfl | (simp; done)); (case hn => first | rfl | (simp; done)); clear hR; intro w hR) | (refine' wpList_storeCell hR rfl rfl rfl inferInstance rfl rfl ?hs ?hn ?hl ?_; (case hs => repeat (first | exact SetAt.head | apply SetAt.tail)); (case hn => first | exact of_decide_eq_true rfl | (show _ < 4; with_reducible assumption) | (simp; first | done | omega)); (case hl => first | with_reducible assumption | (simp only [nl, kA, kB]; first | done | rfl) | rfl); clear hR; intro w hR) | fail)
  refine wp_loop_rounds 1 ?_
  rw [rounds_succ]
  go_wp2_with (first | (refine' wpList_boxRep hR rfl rfl rfl ?_; clear hR; intro blk w hR) | (refine' wpList_allocRep hR rfl rfl inferInstance ?_; clear hR; intro blk w hR) | (refine' wpList_loadAll hR rfl rfl rfl inferInstance ?hm ?hn ?_; (case hm => first | with_reducible assumption | repeat (first | exact .head _ | apply List.Mem.tail)); (case hn => first | rfl | (simp; done))) | (refine' wpList_loadRow hR rfl rfl rfl inferInstance ?hm ?hv ?hn ?_; (case hm => first | with_reducible assumption | repeat (first | exact .head _ | apply List.Mem.tail)); (case hv => first | with_reducible assumption | (simp only [kC, kD, kE, kF]; first | done | rfl)); (case hn => first | rfl | (simp; done))) | (refine' wpList_loadCell hR rfl rfl rfl inferInstance ?hm ?hv ?_; (case hm => first | with_reducible assumption | repeat (first | exact .head _ | apply List.Mem.tail)); (case hv => first | rfl | with_reducible assumption)) | (refine' wpList_storeAll hR rfl rfl rfl inferInstance rfl ?hs ?zone ?zvn ?hn ?_; (case hs => repeat (first | exact SetAt.head | apply SetAt.tail)); (case zone => first | rfl | with_reducible assumption); (case zvn => first | rfl | (simp; done)); (case hn => first | rfl | (simp; done)); clear hR; intro w hR) | (refine' wpList_storeCell hR rfl rfl rfl inferInstance rfl rfl ?hs ?hn ?hl ?_; (case hs => repeat (first | exact SetAt.head | apply SetAt.tail)); (case hn => first | exact of_decide_eq_true rfl | (show _ < 4; with_reducible assumption) | (simp; first | done | omega)); (case hl => first | with_reducible assumption | (simp only [nl, kA, kB]; first | done | rfl) | rfl); clear hR; intro w hR) | fail)
  go_end0
  exact ⟨rfl, hR⟩
theorem writes_any (sb : Nat) (m xs : List Nat) (r : Nat → Nat) (v : Value) (hr : TailOk m r) (hbig : m.length + xs.length < 1000000000000) (hv : SliceOf B0 w0 L v xs) (hR : Rep B0 w0 ((sb, sumC m r) :: L) w) :
    Calls Try.prog 39 #[.pointer (some ⟨sb, 0, none⟩), v] w fun e w' => e = .returned (.tuple #[]) ∧ ∃ r', TailOk (m ++ xs) r' ∧ Rep B0 w0 ((sb, sumC (m ++ xs) r') :: L) w' := by
  obtain ⟨a, cap, rfl, h2, h3, h4, h5⟩ := hv
  by_cases hx : xs = []
  · subst hx
    rw [List.append_nil]
    exact (writes_none _ a cap hR).mono fun e w' ⟨he, hR'⟩ => ⟨he, r, hr, hR'⟩
  · obtain ⟨bb, off, rfl, h6⟩ := h5 hx
    exact writes_some sb m xs r bb off cap h4 hr hbig h2 h3 hR h6
set_option maxRecDepth 100000 in
set_option maxHeartbeats 1000000 in
theorem write_any (sb : Nat) (m xs : List Nat) (r : Nat → Nat) (v : Value) (hr : TailOk m r) (hbig : m.length + xs.length < 1000000000000) (hv : SliceOf B0 w0 L v xs) (hR : Rep B0 w0 ((sb, sumC m r) :: L) w) :
    Calls Try.prog 32 #[.pointer (some ⟨sb, 0, none⟩), v] w fun e w' => e = .returned (.int .i64 0) ∧ ∃ r', TailOk (m ++ xs) r' ∧ Rep B0 w0 ((sb, sumC (m ++ xs) r') :: L) w' := by
  have cw := fun (w : World) (hw : Rep B0 w0 ((sb, sumC m r) :: L) w) => writes_any sb m xs r v hr hbig hv hw
  have s0 := sumL_made (blocksN m (m.length / 64)) r m.length
  go_enter Try.func32, Try.ntmps32
  go_wp2_with (first | (refine' wpList_boxRep hR rfl rfl rfl ?_; clear hR; intro blk w hR) | (refine' wpList_allocRep hR rfl rfl inferInstance ?_; clear hR; intro blk w hR) | (refine' wpList_loadAll hR rfl rfl rfl inferInstance ?hm ?hn ?_; (case hm => first | with_reducible assumption | repeat (first | exact .head _ | apply List.Mem.tail)); (case hn => first | rfl | (simp; done))) | (refine' wpList_loadRow hR rfl rfl rfl inferInstance ?hm ?hv ?hn ?_; (case hm => first | with_reducible assumption | repeat (first | exact .head _ | apply List.Mem.tail)); (case hv => first | with_reducible assumption | (simp only [kC, kD, kE, kF]; first | done | rfl)); (case hn => first | rfl | (simp; done))) | (refine' wpList_loadCell hR rfl rfl rfl inferInstance ?hm ?hv ?_; (case hm => first | with_reducible assumption | repeat (first | exact .head _ | apply List.Mem.tail)); (case hv => first | rfl | with_reducible assumption)) | (refine' wpList_storeAll hR rfl rfl rfl inferInstance rfl ?hs ?zone ?zvn ?hn ?_; (case hs => repeat (first | exact SetAt.head | apply SetAt.tail)); (case zone => first | rfl | with_reducible assumption); (case zvn => first | rfl | (simp; done)); (case hn => first | rfl | (simp; done)); clear hR; intro w hR) | (refine' wpList_storeCell hR rfl rfl rfl inferInstance rfl rfl ?hs ?hn ?hl ?_; (case hs => repeat (first | exact SetAt.head | apply SetAt.tail)); (case hn => first | exact of_decide_eq_true rfl | (show _ < 4; with_reducible assumption) | (simp; first | done | omega)); (case hl => first | with_reducible assumption | (simp only [nl, kA, kB]; first | done | rfl) | rfl); clear hR; intro w hR) | (refine' wpList_loadAllG hR rfl rfl rfl inferInstance ?hm ?hn ?_; (case hm => first | with_reducible assumption | repeat (first | exact .head _ | apply List.Mem.tail)); (case hn => first | rfl | (simp; done))) | (refine' wpList_loadCellG hR rfl rfl rfl inferInstance ?hm ?hv ?_; (case hm => first | with_reducible assumption | repeat (first | exact .head _ | apply List.Mem.tail)); (case hv => first | rfl | with_reducible assumption)) | (go_at_call 39; refine (cw _ hR).mono ?_; clear hR; rintro e w ⟨rfl, r', htl, hR⟩))
  go_ret
  exact ⟨rfl, r', htl, hR⟩

theorem wpList_build2 {P : Program} {ops : Array Oper} {rest : List Oper} {o : Oper} {a : Act} {w : World} {Q : Exit → Act → World → Prop} (hg : o.guard = none) {t : TypeId} {x y : Operand} (hop : o.op = .build t #[(0, x), (1, y)]) {vx vy v : Value} (hx : ev a x = some vx) (hy : ev a y = some vy)
    (hrun : ∀ w, (Instr.build t #[(0, vx), (1, vy)]).run P w = .ok v w) (h : wpList P ops Q rest (a.put o.dst v) w) : wpList P ops Q (o :: rest) a w :=
  wpList_plain hg fun _ hK => by
    have hx := ev_eval hx
    have hy := ev_eval hy
    unfold Oper.wp execOp
    simp only [hop, List.map_toArray, List.map_cons, List.map_nil, hx, hy, hrun, Sem.run_bind, Result.andThen_ok, Sem.run_pure]
    exact hK _ _ h
theorem new_build (w : World) : (Instr.build 94 #[(0, .int .i64 1), (1, .agg (s8L beginN).toArray)]).run Try.prog w = .ok (.agg (sumL beginN (fun _ => 0) 0).toArray) w := by
  rw [sumL_def, u8s_def]; kernel_rfl
theorem tail_nil : TailOk [] fun _ => 0 := ⟨fun _ => (by decide : 0 < 256), fun j hj => (by simp at hj)⟩
set_option maxRecDepth 100000 in
set_option maxHeartbeats 1000000 in
theorem new_any (hR : Rep B0 w0 L w) : Calls Try.prog 31 #[] w fun e w' => ∃ sb, e = .returned (.pointer (some ⟨sb, 0, none⟩)) ∧ Rep B0 w0 ((sb, sumC [] fun _ => 0) :: L) w' := by
  have cb := fun w => begin_any w
  have hb := new_build
  have e0 : sumC [] (fun _ => 0) = .cells (sumL beginN (fun _ => 0) 0).toArray 94 := rfl
  rw [e0]
  clear e0
  generalize s8L beginN = sl at *
  generalize sumL beginN (fun _ => 0) 0 = su at *
  go_enter Try.func31, Try.ntmps31
  go_wp2_with (first | (refine' wpList_boxRep hR rfl rfl rfl ?_; clear hR; intro blk w hR) | (refine' wpList_allocRep hR rfl rfl inferInstance ?_; clear hR; intro blk w hR) | (refine' wpList_loadAll hR rfl rfl rfl inferInstance ?hm ?hn ?_; (case hm => first | with_reducible assumption | repeat (first | exact .head _ | apply List.Mem.tail)); (case hn => first | rfl | (simp; done))) | (refine' wpList_loadRow hR rfl rfl rfl inferInstance ?hm ?hv ?hn ?_; (case hm => first | with_reducible assumption | repeat (first | exact .head _ | apply List.Mem.tail)); (case hv => first | with_reducible assumption | (simp only [kC, kD, kE, kF]; first | done | rfl)); (case hn => first | rfl | (simp; done))) | (refine' wpList_loadCell hR rfl rfl rfl inferInstance ?hm ?hv ?_; (case hm => first | with_reducible assumption | repeat (first | exact .head _ | apply List.Mem.tail)); (case hv => first | rfl | with_reducible assumption)) | (refine' wpList_storeAll hR rfl rfl rfl inferInstance rfl ?hs ?zone ?zvn ?hn ?_; (case hs => repeat (first | exact SetAt.head | apply SetAt.tail)); (case zone => first | rfl | with_reducible assumption); (case zvn => first | rfl | (simp; done)); (case hn => first | rfl | (simp; done)); clear hR; intro w hR) | (refine' wpList_storeCell hR rfl rfl rfl inferInstance rfl rfl ?hs ?hn ?hl ?_; (case hs => repeat (first | exact SetAt.head | apply SetAt.tail)); (case hn => first | exact of_decide_eq_true rfl | (show _ < 4; with_reducible assumption) | (simp; first | done | omega)); (case hl => first | with_reducible assumption | (simp only [nl, kA, kB]; first | done | rfl) | rfl); clear hR; intro w hR) | (go_at_call 56; refine (cb _).mono ?_; rintro e w ⟨rfl, hb⟩; replace hR := hR.call hb; clear hb) | (refine' wpList_build2 rfl rfl rfl rfl hb ?_))
  go_ret
  exact ⟨_, rfl, hR⟩
set_option maxRecDepth 100000 in
set_option maxHeartbeats 1000000 in
theorem of_hash (xs : List Nat) (v : Value) (hbig : xs.length < 100000000000) (hv : SliceOf B0 w0 L v xs) (hR : Rep B0 w0 L w) :
    Calls Try.prog 18 #[v] w fun e w' => e = .returned (.agg (u8s 32 fun i => (hashN xs).getD i 0).toArray) ∧ Rep B0 w0 L w' := by
  have hone := u8s_one 32 fun i => (hashN xs).getD i 0
  obtain ⟨out, hout⟩ : ∃ out, (fun i => (hashN xs).getD i 0) = out := ⟨_, rfl⟩
  rw [hout] at hone ⊢
  have ch : ∀ (L : List (Nat × Obj)) (w : World) (sb : Nat) (r : Nat → Nat) (hr : TailOk xs r), Rep B0 w0 ((sb, sumC xs r) :: L) w → Calls Try.prog 35 #[.pointer (some ⟨sb, 0, none⟩)] w fun e w' => e = .returned (.agg (u8s 32 out).toArray) ∧ Rep B0 w0 ((sb, sumC xs r) :: L) w' := fun L w sb r hr hw => by
    rw [← hout]; exact hash_any sb xs r hr (by omega) hw
  have cw : ∀ (p : Nat × Obj) (w : World) (sb : Nat), Rep B0 w0 ((sb, sumC [] fun _ => 0) :: p :: L) w → Calls Try.prog 39 #[.pointer (some ⟨sb, 0, none⟩), v] w fun e w' => e = .returned (.tuple #[]) ∧ ∃ r', TailOk xs r' ∧ Rep B0 w0 ((sb, sumC xs r') :: p :: L) w' := fun p w sb hw => by
    have := writes_any sb [] xs (fun _ => 0) v tail_nil (by simp; omega) hv.more hw
    rw [List.nil_append] at this
    exact this
  have cn := fun (L : List (Nat × Obj)) (w : World) (hw : Rep B0 w0 L w) => new_any hw
  clear hout hv hbig
  go_enter Try.func18, Try.ntmps18
  go_wp2_with (first | (refine' wpList_boxRep hR rfl rfl rfl ?_; clear hR; intro blk w hR) | (refine' wpList_allocRep hR rfl rfl inferInstance ?_; clear hR; intro blk w hR) | (refine' wpList_loadAll hR rfl rfl rfl inferInstance ?hm ?hn ?_; (case hm => first | with_reducible assumption | repeat (first | exact .head _ | apply List.Mem.tail)); (case hn => first | rfl | (simp; done))) | (refine' wpList_loadRow hR rfl rfl rfl inferInstance ?hm ?hv ?hn ?_; (case hm => first | with_reducible assumption | repeat (first | exact .head _ | apply List.Mem.tail)); (case hv => first | with_reducible assumption | (simp only [kC, kD, kE, kF]; first | done | rfl)); (case hn => first | rfl | (simp; done))) | (refine' wpList_loadCell hR rfl rfl rfl inferInstance ?hm ?hv ?_; (case hm => first | with_reducible assumption | repeat (first | exact .head _ | apply List.Mem.tail)); (case hv => first | rfl | with_reducible assumption)) | (refine' wpList_storeAll hR rfl rfl rfl inferInstance rfl ?hs ?zone ?zvn ?hn ?_; (case hs => repeat (first | exact SetAt.head | apply SetAt.tail)); (case zone => first | rfl | with_reducible assumption); (case zvn => first | rfl | (simp; done)); (case hn => first | rfl | (simp; done)); clear hR; intro w hR) | (refine' wpList_storeCell hR rfl rfl rfl inferInstance rfl rfl ?hs ?hn ?hl ?_; (case hs => repeat (first | exact SetAt.head | apply SetAt.tail)); (case hn => first | exact of_decide_eq_true rfl | (show _ < 4; with_reducible assumption) | (simp; first | done | omega)); (case hl => first | with_reducible assumption | (simp only [nl, kA, kB]; first | done | rfl) | rfl); clear hR; intro w hR) | (go_at_call 31; refine (cn _ _ hR).mono ?_; clear hR; rintro e w ⟨sb, rfl, hR⟩) | (go_at_call 39; refine (cw _ _ _ hR).mono ?_; clear hR; rintro e w ⟨rfl, r', htl, hR⟩) | (go_at_call 35; refine (ch _ _ _ _ htl hR).mono ?_; clear hR; rintro e w ⟨rfl, hR⟩))
  (refine' bodyPost_ret (results_c Try.results18 rfl (hR.loadAll (P := Try.prog) (ty := 32) ?hm ?hn)) rfl ⟨rfl, hR.drop1.drop1⟩; (case hm => exact .tail _ (.head _)); (case hn => simp))
end
end Go.Proofs.Ytlkjbkdnfmbcnaa
/- balefirelaw05.text; two hashes compared. -/
set_option linter.unusedSimpArgs false
set_option linter.unusedVariables false
namespace Go.Proofs.Ytlkjbkdnfmbcnaa
open Go.RowKit
attribute [local irreducible] Calls

theorem cells_u8 : Try.prog.cellsOf 5 = 1 := by kernel_rfl
noncomputable def eqH : (Nat → Nat) → (Nat → Nat) → Bool := opq fun f g => decide (∀ j, j ∈ List.range 32 → f j = g j)
theorem eqH_def (f g : Nat → Nat) : eqH f g = decide (∀ j, j ∈ List.range 32 → f j = g j) := by unfold eqH; rw [opq_eq]
theorem eqH_self (f : Nat → Nat) : eqH f f = true := by rw [eqH_def]; simp
@[go_sem] theorem equalIn_hash (f g : Nat → Nat) (w : World) : (Op.equalIn 10000 32 (.agg (u8s 32 f).toArray) (.agg (u8s 32 g).toArray)).run Try.prog w = .ok (eqH f g) w := by
  have hp : ∀ (x : Nat → Nat) i, i < 32 → (part 5 (u8s 32 x).toArray i).run Try.prog w = .ok (.int .u8 (x i : Int)) w := fun x i hi => by
    have hagg : (isAgg 5).run Try.prog w = .ok false w := by
      unfold isAgg
      rw [Sem.run_bind, run_underlying Try.underlying5 w]
      rfl
    unfold part
    rw [Sem.run_bind, hagg]
    simp only [Result.andThen_ok, Bool.false_eq_true, if_false, List.getElem?_toArray, u8s_at hi]
    rfl
  have ho : ∃ i, Try.prog.info? 5 = some i := by
    cases h : Try.prog.info? 5 with
    | some i => exact ⟨i, rfl⟩
    | none => exact absurd (show (Try.prog.info? 5).isSome = true by kernel_rfl) (by rw [h]; decide)
  obtain ⟨i, hi⟩ := ho
  have hu : Try.prog.underlying 32 = some (.array 32 5) := Try.underlying32
  rw [show (10000 : Nat) = 9999 + 1 from rfl, run_equalIn_array w 9999 (u8s 32 f).toArray (u8s 32 g).toArray hu hi, cells_u8]
  have he : ∀ x y : Int, (Op.equalIn 9999 5 (.int .u8 x) (.int .u8 y)).run Try.prog w = .ok (x == y) w := fun x y => run_equalIn_int w 9998 5 .u8 .u8 x y Try.underlying5
  have key : ∀ is : List Nat, (∀ j, j ∈ is → j < 32) → (Op.eqItems 9999 5 1 (u8s 32 f).toArray (u8s 32 g).toArray is).run Try.prog w = .ok (decide (∀ j, j ∈ is → f j = g j)) w := by
    intro is
    induction is with
    | nil => intro _; simp [Op.eqItems]
    | cons j r ih =>
      intro hj
      have hj0 := hj j (.head _)
      have ih := ih fun k hk => hj k (.tail _ hk)
      simp only [Op.eqItems, Nat.mul_one, Sem.run_bind, hp f j hj0, hp g j hj0, Result.andThen_ok, he]
      by_cases e : f j = g j
      · simp [e, ih]
      · have : ¬ ((f j : Int) = (g j : Int)) := by omega
        simp [e, this]
  rw [key (List.range 32) (fun j hj => List.mem_range.1 hj), eqH_def]

/-! ### text -/
def digs : ByteArray := ⟨#[48, 49, 50, 51, 52, 53, 54, 55, 56, 57, 97, 98, 99, 100, 101, 102]⟩
def digS (d : Nat) : ByteArray := digs.extract d (d + 1)
/-- The digits of the first n bytes. -/
def textB (f : Nat → Nat) : Nat → ByteArray
  | 0 => ⟨#[]⟩
  | n + 1 => textB f n ++ digS (f n / 16) ++ digS (f n % 16)
theorem text_none : textB (fun i => (hashN []).getD i 0) 32 = ⟨#[101, 51, 98, 48, 99, 52, 52, 50, 57, 56, 102, 99, 49, 99, 49, 52, 57, 97, 102, 98, 102, 52, 99, 56, 57, 57, 54, 102, 98, 57, 50, 52, 50, 55, 97, 101, 52, 49, 101, 52, 54, 52, 57, 98, 57, 51, 52, 99, 97, 52, 57, 53, 57, 57, 49, 98, 55, 56, 53, 50, 98, 56, 53, 53]⟩ := by
  rw [hash_none]
  decide +kernel
theorem text_abc : textB (fun i => (hashN [97, 98, 99]).getD i 0) 32 = ⟨#[98, 97, 55, 56, 49, 54, 98, 102, 56, 102, 48, 49, 99, 102, 101, 97, 52, 49, 52, 49, 52, 48, 100, 101, 53, 100, 97, 101, 50, 50, 50, 51, 98, 48, 48, 51, 54, 49, 97, 51, 57, 54, 49, 55, 55, 97, 57, 99, 98, 52, 49, 48, 102, 102, 54, 49, 102, 50, 48, 48, 49, 53, 97, 100]⟩ := by
  rw [hash_abc]
  decide +kernel
theorem dig_size (d : Nat) (hd : d < 16) : (digS d).size = 1 := by
  have : ∀ d : Fin 16, (digS d.1).size = 1 := by decide +kernel
  exact this ⟨d, hd⟩
theorem textB_size (f : Nat → Nat) (hf : ∀ j, f j < 256) : ∀ n, (textB f n).size = 2 * n
  | 0 => rfl
  | n + 1 => by
    have h := hf n
    simp only [textB, ByteArray.size_append, textB_size f hf n, dig_size _ (show f n / 16 < 16 by omega), dig_size _ (show f n % 16 < 16 by omega)]
    omega
theorem dig_cut (d : Nat) (hd : d < 16) (w : World) : (Instr.sliceAt 9 (.string digs) (some (.int .u8 (d : Int))) (some (.int .u8 ((d + 1 : Nat) : Int))) none).run Try.prog w = .ok (.string (digS d)) w := by
  have hz : digs.size = 16 := by decide +kernel
  have : d = 0 ∨ d = 1 ∨ d = 2 ∨ d = 3 ∨ d = 4 ∨ d = 5 ∨ d = 6 ∨ d = 7 ∨ d = 8 ∨ d = 9 ∨ d = 10 ∨ d = 11 ∨ d = 12 ∨ d = 13 ∨ d = 14 ∨ d = 15 := by omega
  rcases this with rfl | rfl | rfl | rfl | rfl | rfl | rfl | rfl | rfl | rfl | rfl | rfl | rfl | rfl | rfl | rfl <;> (go_simp; first | done | rfl)
theorem string_add (x y : Operand) (s t u : ByteArray) (h : s.size + t.size < 4611686018427387904) (hu : s ++ t = u) (w : World) : (do eqGuard BinOp.add 9 x y (Value.string s) (Value.string t); binOp BinOp.add 9 (Value.string s) (Value.string t) : Sem Value).run Try.prog w = .ok (.string u) w := by
  subst hu
  have h2 : ¬ (((s.size + t.size : Nat) : Int) > IntKind.i64.max) := by
    show ¬ (((s.size + t.size : Nat) : Int) > 9223372036854775807)
    omega
  go_simp
  first | done | omega | (rw [if_neg (by omega)])
theorem and15 (x : Nat) (h : x < 256) : bits BinOp.and IntKind.u8 (x : Int) 15 = ((x % 16 : Nat) : Int) := by
  have := bits_mask .u8 8 (by decide) (fun n h0 h1 => by rw [IntKind.wrap_u8]; omega) 4 (by decide) (x : Int) (by omega) (by omega)
  simpa using this
end Go.Proofs.Ytlkjbkdnfmbcnaa
/- balefirelaw05.alive. -/
set_option linter.unusedSimpArgs false
set_option linter.unusedVariables false
namespace Go.Proofs.Ytlkjbkdnfmbcnaa
open Go.RowKit
attribute [local irreducible] Calls

/-- A message's hash, byte by byte. -/
noncomputable def hashF (m : List Nat) : Nat → Nat := opq fun i => (hashN m).getD i 0
theorem hashF_eq (m : List Nat) : hashF m = fun i => (hashN m).getD i 0 := by unfold hashF; rw [opq_eq]
theorem hashF_lt (m : List Nat) (i : Nat) : hashF m i < 256 := by
  rw [hashF_eq]
  show (hashN m).getD i 0 < 256
  unfold hashN bytesN
  rw [List.getD_eq_getElem?_getD, List.getElem?_map]
  cases h : (List.range 32)[i]? with
  | none => exact (by decide : 0 < 256)
  | some j => exact Nat.mod_lt _ (by decide)
section
variable {P : Program} {ops : Array Oper} {rest : List Oper} {o : Oper} {a : Act} {w w0 : World} {Q : Exit → Act → World → Prop} {B0 : Nat} {L : List (Nat × Obj)}
theorem hash_F (sb : Nat) (m : List Nat) (r : Nat → Nat) (hr : TailOk m r) (hbig : m.length < 100000000000) (hR : Rep B0 w0 ((sb, sumC m r) :: L) w) :
    Calls Try.prog 35 #[.pointer (some ⟨sb, 0, none⟩)] w fun e w' => e = .returned (.agg (u8s 32 (hashF m)).toArray) ∧ Rep B0 w0 ((sb, sumC m r) :: L) w' := by
  rw [hashF_eq]; exact hash_any sb m r hr hbig hR
theorem of_F (xs : List Nat) (v : Value) (hbig : xs.length < 100000000000) (hv : SliceOf B0 w0 L v xs) (hR : Rep B0 w0 L w) :
    Calls Try.prog 18 #[v] w fun e w' => e = .returned (.agg (u8s 32 (hashF xs)).toArray) ∧ Rep B0 w0 L w' := by
  rw [hashF_eq]; exact of_hash xs v hbig hv hR
theorem sliceOf_nil : SliceOf B0 w0 L (.slice none 0 0) [] := ⟨none, 0, rfl, Nat.le_refl _, Nat.zero_le _, fun _ => (by decide : 0 < 256), fun h => absurd rfl h⟩
theorem sliceOf_own {b n : Nat} {l : List Value} {t : TypeId} (xs : List Nat) {fr : Nat × Nat} (hm : (b, Obj.cells l.toArray t fr) ∈ L) (hl : l = xs.map fun x : Nat => Value.int .u8 (x : Int)) (hn : xs.length = n) (hb : ∀ j, xs.getD j 0 < 256) (hbig : n < 1000) : SliceOf B0 w0 L (.slice (some ⟨b, 0, none⟩) n n) xs :=
  ⟨some ⟨b, 0, none⟩, n, by rw [hn], by omega, by unfold maxLen; omega, hb, fun _ => ⟨b, 0, rfl, fun w hw j hj => by
    rw [Nat.zero_add]
    have hh := (hw.own _ hm).2
    simp only at hh
    simp only [World.cell?, hh, Option.isSome_none, Bool.false_eq_true, if_false, List.getElem?_toArray]
    subst hl
    rw [List.getElem?_map, List.getElem?_eq_getElem hj, List.getD_eq_getElem?_getD, List.getElem?_eq_getElem hj]
    rfl⟩⟩
theorem wpList_sliceG (hR : Rep B0 w0 L w) (hw : Region.wanted o (yielded ops a.tmps) = true) {ty el : TypeId} {n : Nat} {parts : Array (Nat × Operand)} (hop : o.op = .buildSlice ty n parts) (l : List Value)
    (hrun : ∀ w, (Instr.buildSlice ty n (parts.map fun p => (p.1, a.eval p.2))).run P w = .ok (.slice (some ⟨w.heap.size, 0, none⟩) n n) (w.alloc (.cells l.toArray el)))
    (h : ∀ b w', Rep B0 w0 ((b, .cells l.toArray el) :: L) w' → wpList P ops Q rest (a.put o.dst (.slice (some ⟨b, 0, none⟩) n n)) w') : wpList P ops Q (o :: rest) a w :=
  wpList_wanted hw fun _ hK => by
    unfold Oper.wp execOp
    simp only [hop, hrun, Sem.run_bind, Result.andThen_ok, Sem.run_pure]
    exact hK _ _ (h _ _ (hR.alloc _))
end
/-- A constant's bytes are marked. -/
theorem conv_rep {B0 : Nat} {w0 w : World} {L : List (Nat × Obj)} {b m c : Nat} {l : List Value} (hR : Rep B0 w0 ((b, .cells l.toArray 5) :: L) w) : ∃ w', (convert 38 38 (.slice (some ⟨b, 0, none⟩) m c)).run Try.prog w = .ok (.slice (some ⟨b, 0, none⟩) m c) w' ∧ Rep B0 w0 ((b, .cells l.toArray 5 (l.length, l.length + 1)) :: L) w' := by
  have hh := (hR.own _ (.head _)).2
  have hsh : w.shape? b = some (5, l.length) := by
    unfold World.shape?
    simp only at hh
    rw [hh]
    simp
  refine ⟨w.freeze ⟨b, l.length, none⟩ 1, ?_, hR.put SetAt.head ?_ (fun k hk => ?_) ?_ ?_ ?_ ?_⟩
  · simp [convert, run_underlying Try.underlying38, run_underlying Try.underlying5, markStringish, hsh]
  · simp only at hh
    simp [World.freeze, Array.getElem?_modify, hh]
  · simp [World.freeze, Array.getElem?_modify, Ne.symm hk]
  · simp [World.freeze]
  · simp [World.freeze]
  · simp [World.freeze]
  · simp [World.freeze]
theorem wpList_convRep {ops : Array Oper} {rest : List Oper} {o : Oper} {a : Act} {w w0 : World} {Q : Exit → Act → World → Prop} {B0 : Nat} {L : List (Nat × Obj)} {b m c : Nat} {l : List Value} (hR : Rep B0 w0 ((b, .cells l.toArray 5) :: L) w) (hw : Region.wanted o (yielded ops a.tmps) = true) {x : Operand}
    (hop : o.op = .convert 38 38 x) (hx : a.eval x = .slice (some ⟨b, 0, none⟩) m c) (h : ∀ w', Rep B0 w0 ((b, .cells l.toArray 5 (l.length, l.length + 1)) :: L) w' → wpList Try.prog ops Q rest (a.put o.dst (.slice (some ⟨b, 0, none⟩) m c)) w') : wpList Try.prog ops Q (o :: rest) a w :=
  wpList_wanted hw fun _ hK => by
    obtain ⟨w', e, hR'⟩ := conv_rep (m := m) (c := c) hR
    unfold Oper.wp execOp
    simp only [hop, hx, e, Sem.run_bind, Result.andThen_ok, Sem.run_pure]
    exact hK _ _ (h _ hR')
theorem byte1 : ∀ j, ([97] : List Nat).getD j 0 < 256 := fun j => by
  match j with
  | 0 => decide
  | n + 1 => exact (by decide : 0 < 256)
theorem byte2 : ∀ j, ([98, 99] : List Nat).getD j 0 < 256 := fun j => by
  match j with
  | 0 => decide
  | 1 => decide
  | n + 2 => exact (by decide : 0 < 256)
theorem byte3 : ∀ j, ([97, 98, 99] : List Nat).getD j 0 < 256 := fun j => by
  match j with
  | 0 => decide
  | 1 => decide
  | 2 => decide
  | n + 3 => exact (by decide : 0 < 256)

end Go.Proofs.Ytlkjbkdnfmbcnaa
/- A slice of bytes that came in. -/
set_option linter.unusedSimpArgs false
set_option linter.unusedVariables false
namespace Go.Proofs.Ytlkjbkdnfmbcnaa
open Go.RowKit Go.ChangeShapes

theorem cells_one8 : Try.prog.cellsOf 5 = 1 := by kernel_rfl
set_option maxRecDepth 100000 in
theorem is_slice {W : World} {b0 : Nat} {r : Reach} {v : Value} (hval : Value.okWide Try.prog W r b0 38 v) : v.cells = #[v] := by
  cases v <;> first | rfl | (simp [Value.okWide, Cell.okWide, Cell.ok, Try.underlying38] at hval; done)
set_option maxRecDepth 100000 in
theorem open_bytes {H : Type} {enc : TypeId × Value → H} {W : World} {base : Nat} {spare : Nat → Bool} {held : Bool} {b0 : Nat} {r : Reach} {v : Value} {d : DataW H} {ps : List MemPlace} (hval : Value.okWide Try.prog W r b0 38 v) (h0 : DataW.Trod enc Try.prog W base spare held 38 v d ps) :
    ∃ xs, SliceOf W.heap.size W [] v xs := by
  obtain ⟨fuel, h⟩ := h0
  rw [is_slice hval] at h
  rcases open_ints Try.underlying38 Try.underlying5 cells_one8 h with ⟨h1, _⟩ | ⟨a, len, cap, zs, h1, _, hl, hm, hz, hx, hc, hw⟩
  · obtain rfl := (List.cons.inj (show [v] = _ from h1)).1
    exact ⟨[], sliceOf_nil⟩
  · obtain rfl := (List.cons.inj (show [v] = _ from h1)).1
    have hlen : len ≤ zs.length := by rw [hz]; split <;> omega
    have hnn : ∀ j, j < len → 0 ≤ zs.getD j 0 ∧ zs.getD j 0 < 256 := fun j hj => by
      have hj' : j < zs.length := by omega
      have hmem : zs.getD j 0 ∈ zs := by
        rw [List.getD_eq_getElem?_getD, List.getElem?_eq_getElem hj']
        exact List.getElem_mem hj'
      have := hw _ hmem
      simp [Lit.wf, IntKind.min, IntKind.max, IntKind.signed, IntKind.bits] at this
      rw [List.getD_eq_getElem?_getD]
      omega
    have hxl : ((zs.take len).map Int.toNat).length = len := by simp; omega
    have hxs : ∀ j, j < len → ((zs.take len).map Int.toNat).getD j 0 = (zs.getD j 0).toNat := fun j hj => by
      rw [List.getD_eq_getElem?_getD, List.getElem?_map, List.getElem?_take, if_pos hj, List.getD_eq_getElem?_getD, List.getElem?_eq_getElem (by omega)]
      rfl
    refine ⟨(zs.take len).map Int.toNat, some a, cap, by rw [hxl], by omega, hm, fun j => ?_, fun hne => ?_⟩
    · by_cases hj : j < len
      · rw [hxs j hj]
        have := hnn j hj
        omega
      · rw [List.getD_eq_getElem?_getD, List.getElem?_eq_none (by omega)]
        exact (by decide : 0 < 256)
    · have hpos : 0 < len := by
        have : ((zs.take len).map Int.toNat).length ≠ 0 := fun h => hne (List.length_eq_zero_iff.1 h)
        omega
      have hc0 := hc 0 (by omega)
      obtain ⟨bb, off, sp⟩ := a
      have hblk : bb < W.heap.size := by
        unfold World.cell? at hc0
        split at hc0
        · rename_i hh
          have hb := (Array.getElem?_eq_some_iff.1 hh).1
          have : ((⟨bb, off, sp⟩ : Addr).add 0).block = bb := by unfold Addr.add; split <;> rfl
          rw [this] at hb
          exact hb
        · cases hc0
      have hsp : sp = none := by
        cases sp with
        | none => rfl
        | some s =>
          have hs : ((⟨bb, off, some s⟩ : Addr).add 0).spot.isSome = true := by unfold Addr.add; split <;> simp_all
          unfold World.cell? at hc0
          split at hc0
          · rw [if_pos hs] at hc0; cases hc0
          · cases hc0
      subst hsp
      refine ⟨bb, off, rfl, fun w hw' j hj => ?_⟩
      rw [hxl] at hj
      rw [hw'.below.cell (p := ⟨bb, off + j, none⟩) hblk, hxs j hj]
      have e : ((⟨bb, off, none⟩ : Addr).add j) = ⟨bb, off + j, none⟩ := by
        unfold Addr.add; split <;> simp_all
      have := hc j (by omega)
      rw [e] at this
      rw [this]
      have := hnn j hj
      congr 2
      omega
end Go.Proofs.Ytlkjbkdnfmbcnaa
/- A slice of slices of bytes that came in. -/
set_option linter.unusedSimpArgs false
set_option linter.unusedVariables false
namespace Go.Proofs.Ytlkjbkdnfmbcnaa
open Go.RowKit Go.ChangeShapes

/-- Slices of bytes in a slice, in every world of the class. -/
def RowsOf (B0 : Nat) (w0 : World) (L : List (Nat × Obj)) (v : Value) (xss : List (List Nat)) : Prop := ∃ a cap, ∃ V : Nat → Value, v = .slice a xss.length cap ∧ xss.length ≤ cap ∧ cap ≤ maxLen ∧
  (∀ j, j < xss.length → SliceOf B0 w0 L (V j) (xss.getD j []) ∧ (xss.getD j []).length ≤ reachBytes) ∧
  (xss ≠ [] → ∃ bb off, a = some ⟨bb, off, none⟩ ∧ ∀ w, Rep B0 w0 L w → ∀ j, j < xss.length → w.cell? ⟨bb, off + j, none⟩ = some (V j))
theorem addr_plain {W : World} {a : Addr} {v : Value} (hc0 : W.cell? (a.add 0) = some v) : ∃ bb off, a = ⟨bb, off, none⟩ ∧ bb < W.heap.size := by
  obtain ⟨bb, off, sp⟩ := a
  have hblk : bb < W.heap.size := by
    unfold World.cell? at hc0
    split at hc0
    · rename_i hh
      have hb := (Array.getElem?_eq_some_iff.1 hh).1
      have : ((⟨bb, off, sp⟩ : Addr).add 0).block = bb := by unfold Addr.add; split <;> rfl
      rw [this] at hb
      exact hb
    · cases hc0
  have hsp : sp = none := by
    cases sp with
    | none => rfl
    | some s =>
      have hs : ((⟨bb, off, some s⟩ : Addr).add 0).spot.isSome = true := by unfold Addr.add; split <;> simp_all
      unfold World.cell? at hc0
      split at hc0
      · rw [if_pos hs] at hc0; cases hc0
      · cases hc0
  subst hsp
  exact ⟨bb, off, rfl, hblk⟩
theorem addr_none (bb off j : Nat) : ((⟨bb, off, none⟩ : Addr).add j) = ⟨bb, off + j, none⟩ := by
  unfold Addr.add; split <;> simp_all
/-- Bytes that lie in the caller's memory. -/
theorem slice_in {W : World} {a : Addr} {len cap : Nat} {zs : List Int} (hl : len ≤ cap) (hm : cap ≤ maxLen) (hlen : len ≤ zs.length) (hw : ∀ n ∈ zs, (Lit.int .u8 n).wf = true) (hc : ∀ i, i < len → W.cell? (a.add i) = some (.int .u8 (zs.getD i 0))) :
    SliceOf W.heap.size W [] (.slice (some a) len cap) ((zs.take len).map Int.toNat) := by
  have hnn : ∀ j, j < len → 0 ≤ zs.getD j 0 ∧ zs.getD j 0 < 256 := fun j hj => by
    have hj' : j < zs.length := by omega
    have hmem : zs.getD j 0 ∈ zs := by
      rw [List.getD_eq_getElem?_getD, List.getElem?_eq_getElem hj']
      exact List.getElem_mem hj'
    have := hw _ hmem
    simp [Lit.wf, IntKind.min, IntKind.max, IntKind.signed, IntKind.bits] at this
    rw [List.getD_eq_getElem?_getD]
    omega
  have hxl : ((zs.take len).map Int.toNat).length = len := by simp; omega
  have hxs : ∀ j, j < len → ((zs.take len).map Int.toNat).getD j 0 = (zs.getD j 0).toNat := fun j hj => by
    rw [List.getD_eq_getElem?_getD, List.getElem?_map, List.getElem?_take, if_pos hj, List.getD_eq_getElem?_getD, List.getElem?_eq_getElem (by omega)]
    rfl
  refine ⟨some a, cap, by rw [hxl], by omega, hm, fun j => ?_, fun hne => ?_⟩
  · by_cases hj : j < len
    · rw [hxs j hj]
      have := hnn j hj
      omega
    · rw [List.getD_eq_getElem?_getD, List.getElem?_eq_none (by omega)]
      exact (by decide : 0 < 256)
  · have hpos : 0 < len := by
      have : ((zs.take len).map Int.toNat).length ≠ 0 := fun h => hne (List.length_eq_zero_iff.1 h)
      omega
    obtain ⟨bb, off, rfl, hblk⟩ := addr_plain (hc 0 (by omega))
    refine ⟨bb, off, rfl, fun w hw' j hj => ?_⟩
    rw [hxl] at hj
    rw [hw'.below.cell (p := ⟨bb, off + j, none⟩) hblk, hxs j hj]
    have := hc j (by omega)
    rw [addr_none] at this
    rw [this]
    have := hnn j hj
    congr 2
    omega
set_option maxRecDepth 100000 in
theorem is_slices {W : World} {b0 : Nat} {r : Reach} {v : Value} (hval : Value.okWide Try.prog W r b0 22 v) : v.cells = #[v] := by
  cases v <;> first | rfl | (simp [Value.okWide, Cell.okWide, Cell.ok, Try.underlying22] at hval; done)
theorem weights_in {H : Type} {P : Program} {e : TypeId} : ∀ {l : List (DataW H)} {d : DataW H}, d ∈ l → ∀ n ∈ d.weights P e, n ∈ DataW.weightsAll P e l
  | d' :: r, d, hd, n, hn => by
    simp only [DataW.weightsAll, List.mem_append]
    rcases List.mem_cons.1 hd with rfl | h
    · exact Or.inl hn
    · exact Or.inr (weights_in h n hn)
theorem sized_row {H : Type} {P : Program} {ts : List TypeId} {ds : List (DataW H)} (h : (DataW.weightsEach P ts ds).all (· ≤ reachBytes) = true) {j : Nat} {t e q : TypeId} {elems spare e' sp' : List (DataW H)}
    (ht : ts[j]? = some t) (hd : ds[j]? = some (.slice elems spare)) (hu : P.underlying t = some (.slice e)) (hu2 : P.underlying e = some (.slice q)) (hx : DataW.slice e' sp' ∈ elems) : (e'.length + sp'.length) * P.bytesOf q ≤ reachBytes := by
  refine of_decide_eq_true (List.all_eq_true.1 h _ (DataW.weights_mem_each ht hd _ ?_))
  simp only [DataW.weights, hu, List.mem_cons, List.mem_append]
  exact Or.inr (Or.inl (weights_in hx _ (by simp [DataW.weights, hu2])))
theorem bytes_u8 : Try.prog.bytesOf 5 = 1 := by kernel_rfl
theorem cells_slice : Try.prog.cellsOf 38 = 1 := by kernel_rfl
set_option maxRecDepth 100000 in
theorem open_rows {H : Type} {enc : TypeId × Value → H} {W : World} {held : Bool} {b0 : Nat} {r : Reach} {v : Value} {d : DataW H} {ps : List MemPlace} {ts : List TypeId} {ds : List (DataW H)} {j : Nat}
    (hsz : (DataW.weightsEach Try.prog ts ds).all (· ≤ reachBytes) = true) (ht : ts[j]? = some 22) (hd : ds[j]? = some d) (hval : Value.okWide Try.prog W r b0 22 v) (h0 : DataW.Trod enc Try.prog W 0 (fun _ => true) held 22 v d ps) :
    ∃ xss, RowsOf W.heap.size W [] v xss := by
  obtain ⟨fuel, h⟩ := h0
  rw [is_slices hval] at h
  rcases Go.Deep.open_int_rows Try.underlying22 Try.underlying38 Try.underlying5 cells_slice cells_one8 h with ⟨h1, _⟩ | ⟨a, len, cap, A, L, C, Z, h1, _, hl, hm, hx, hr⟩
  · obtain rfl := (List.cons.inj (show [v] = _ from h1)).1
    exact ⟨[], none, 0, fun _ => .slice none 0 0, rfl, Nat.le_refl _, Nat.zero_le _, fun j hj => absurd hj (Nat.not_lt_zero j), fun h => absurd rfl h⟩
  · obtain rfl := (List.cons.inj (show [v] = _ from h1)).1
    have hxd : d = _ := (Prod.mk.inj hx).1
    rw [hxd] at hd
    have hlen : ((List.range len).map fun r => ((Z r).take (L r)).map Int.toNat).length = len := by simp
    have hat : ∀ r, r < len → ((List.range len).map fun r => ((Z r).take (L r)).map Int.toNat).getD r [] = ((Z r).take (L r)).map Int.toNat := fun r hr => by
      rw [List.getD_eq_getElem?_getD]
      simp [hr]
    refine ⟨(List.range len).map fun r => ((Z r).take (L r)).map Int.toNat, some a, cap, fun r => .slice (A r) (L r) (C r), by rw [hlen], by omega, hm, fun r hrl => ?_, fun hne => ?_⟩
    · rw [hlen] at hrl
      rw [hat r hrl]
      obtain ⟨c1, c2, c3, c4, c5, c6, c7⟩ := hr r (by omega)
      refine ⟨?_, ?_⟩
      · show SliceOf W.heap.size W [] (.slice (A r) (L r) (C r)) (((Z r).take (L r)).map Int.toNat)
        cases hA : A r with
        | none =>
          have hC := c6 hA
          have hL : L r = 0 := by omega
          have hZ : (Z r).take (L r) = [] := by rw [hL]; rfl
          rw [hZ, hL, hC]
          exact sliceOf_nil
        | some a' => exact slice_in c2 c3 (by omega) c5 (fun i hi => (c7 a' hA).2 i (by omega))
      · cases hA : A r with
        | none =>
          have hC := c6 hA
          simp
          omega
        | some a' =>
          have hmem : DataW.slice (lits .u8 ((Z r).take (L r))) (lits .u8 ((Z r).drop (L r))) ∈ ((List.range len).map fun r => Go.Deep.intRow (H := H) .u8 (A r) (L r) (Z r)) := by
            refine List.mem_map.2 ⟨r, List.mem_range.2 hrl, ?_⟩
            unfold Go.Deep.intRow
            rw [hA]
          have := sized_row hsz ht hd Try.underlying22 Try.underlying38 hmem
          rw [bytes_u8] at this
          simp [lits] at this ⊢
          omega
    · rw [hlen]
      have hpos : 0 < len := by
        rcases Nat.eq_zero_or_pos len with h | h
        · subst h; exact absurd rfl hne
        · exact h
      obtain ⟨bb, off, rfl, hblk⟩ := addr_plain (hr 0 (by omega)).1
      refine ⟨bb, off, rfl, fun w hw' j hj => ?_⟩
      rw [hw'.below.cell (p := ⟨bb, off + j, none⟩) hblk]
      have := (hr j (by omega)).1
      rw [addr_none] at this
      exact this
theorem RowsOf.mono {B0 : Nat} {w0 : World} {L L' : List (Nat × Obj)} {v : Value} {xss : List (List Nat)} (h : RowsOf B0 w0 L v xss) (hL : ∀ w, Rep B0 w0 L' w → Rep B0 w0 L w) : RowsOf B0 w0 L' v xss := by
  obtain ⟨a, cap, V, h1, h2, h3, h4, h5⟩ := h
  exact ⟨a, cap, V, h1, h2, h3, fun j hj => ⟨(h4 j hj).1.mono hL, (h4 j hj).2⟩, fun hx => by
    obtain ⟨bb, off, h6, h7⟩ := h5 hx
    exact ⟨bb, off, h6, fun w hw => h7 w (hL w hw)⟩⟩
theorem RowsOf.any {B0 : Nat} {w0 : World} {L : List (Nat × Obj)} {v : Value} {xss : List (List Nat)} (h : RowsOf B0 w0 [] v xss) : RowsOf B0 w0 L v xss := h.mono fun w hw => hw.weaken (List.nil_sublist _)
end Go.Proofs.Ytlkjbkdnfmbcnaa
