/- A sum's cells; the contract of (*Sum).writes. -/
import Derived.Laws.CopyOwn
import Derived.Test.YthbcgcncoggagaaKQa
import Derived.Test.YthbcgcncoggagaaKO
import Derived.ChangeKeysEq
import Derived.ChangeSlices
import Derived.ProofKit
import Derived.OpenShut
import Derived.Deep.Matrix
import Derived.SizedLaws
set_option linter.unusedVariables false
set_option linter.unusedSimpArgs false
namespace Go.Proofs.Ythbcgcncoggagaa
open Go.RowKit
attribute [local irreducible] Calls
noncomputable def sumL (h : S8) (r : Nat → Nat) (n : Nat) : List Value := opq (.int .i64 1 :: (s8L h ++ (u8s 64 r ++ [.int .u64 (n : Int)])))
theorem sumL_def (h : S8) (r : Nat → Nat) (n : Nat) : sumL h r n = .int .i64 1 :: (s8L h ++ (u8s 64 r ++ [.int .u64 (n : Int)])) := by unfold sumL; rw [xCb]
@[simp] theorem sumL_length (h : S8) (r : Nat → Nat) (n : Nat) : (sumL h r n).length = 74 := by
  rw [sumL_def]
  simp [s8L_length]
end Go.Proofs.Ythbcgcncoggagaa
namespace Go.Proofs.Ythbcgcncoggagaa
open Go.RowKit
attribute [local irreducible] Calls
end Go.Proofs.Ythbcgcncoggagaa
namespace Go.Proofs.Ythbcgcncoggagaa
open Go.RowKit
attribute [local irreducible] Calls
instance inShaHash1 : RowT Try.prog 47 32 := .mk' (by kernel_rfl) (by kernel_rfl)
instance inShaHash2 : RowT Try.prog 146 74 := .mk' (by kernel_rfl) (by kernel_rfl)
instance inShaHash3 : ZeroT Try.prog 47 (u8s 32 fun _ => 0) := ⟨.agg (u8s 32 fun _ => 0).toArray, by rw [u8s_def]; kernel_rfl, rfl⟩
noncomputable def zeroSum : List Value := opq (.int .i64 0 :: (s8L zeroS ++ (u8s 64 (fun _ => 0) ++ [.int .u64 0])))
theorem zeroSum_def : zeroSum = .int .i64 0 :: (s8L zeroS ++ (u8s 64 (fun _ => 0) ++ [.int .u64 0])) := by unfold zeroSum; rw [xCb]
@[simp] theorem zeroSum_length : zeroSum.length = 74 := by rw [zeroSum_def]; simp [s8L_length]
instance inShaHash4 : ZeroT Try.prog 146 zeroSum := ⟨.agg zeroSum.toArray, by rw [zeroSum_def, u8s_def]; kernel_rfl, rfl⟩
noncomputable def byRow (h : S8) (i : Nat) : List Value := u8s 32 fun j => if j < i then byteN h j else 0
@[simp] theorem byRow_length (h : S8) (i : Nat) : (byRow h i).length = 32 := u8s_length _ _
structure Buf where
  i : Nat
  g : Nat
  cap : Nat
  cur : List Value
structure BufOk (n : Nat) (x : Nat → Nat) (b : Buf) : Prop where
  le : n ≤ b.cap
  big : b.cap ≤ maxLen
  len : b.cur.length = b.cap
  is : b.cur.take n = u8s n x
end Go.Proofs.Ythbcgcncoggagaa
namespace Go.Proofs.Ythbcgcncoggagaa
open Go.RowKit
attribute [local irreducible] Calls
instance inShaOf1 : CellT Try.prog 95 := .mk' (by kernel_rfl) (by kernel_rfl)
def SliceOf (B0 : Nat) (w0 : World) (L : List (Nat × Obj)) (v : Value) (xs : List Nat) : Prop := ∃ a cap, v = .slice a xs.length cap ∧ xs.length ≤ cap ∧ cap ≤ maxLen ∧ (∀ j, xs.getD j 0 < 256) ∧
  (xs ≠ [] → ∃ bb off, a = some ⟨bb, off, none⟩ ∧ ∀ w, Rep B0 w0 L w → ∀ j, j < xs.length → w.cell? ⟨bb, off + j, none⟩ = some (.int .u8 (xs.getD j 0 : Nat)))
theorem SliceOf.mono {B0 : Nat} {w0 : World} {L L' : List (Nat × Obj)} {v : Value} {xs : List Nat} (h : SliceOf B0 w0 L v xs) (hL : ∀ w, Rep B0 w0 L' w → Rep B0 w0 L w) : SliceOf B0 w0 L' v xs := by
  obtain ⟨a, cap, h1, h2, h3, h4, h5⟩ := h
  exact ⟨a, cap, h1, h2, h3, h4, fun hx => by
    obtain ⟨bb, off, h6, h7⟩ := h5 hx
    exact ⟨bb, off, h6, fun w hw => h7 w (hL w hw)⟩⟩
theorem SliceOf.more {B0 : Nat} {w0 : World} {L : List (Nat × Obj)} {p : Nat × Obj} {v : Value} {xs : List Nat} (h : SliceOf B0 w0 L v xs) : SliceOf B0 w0 (p :: L) v xs := h.mono fun w hw => hw.drop1
end Go.Proofs.Ythbcgcncoggagaa
namespace Go.Proofs.Ythbcgcncoggagaa
open Go.RowKit
attribute [local irreducible] Calls
theorem cells_u8 : Try.prog.cellsOf 5 = 1 := by kernel_rfl
noncomputable def eqH : (Nat → Nat) → (Nat → Nat) → Bool := opq fun f g => decide (∀ j, j ∈ List.range 32 → f j = g j)
theorem eqH_def (f g : Nat → Nat) : eqH f g = decide (∀ j, j ∈ List.range 32 → f j = g j) := by unfold eqH; rw [xCb]
@[go_sem] theorem equalIn_hash (f g : Nat → Nat) (w : World) : (Op.equalIn 10000 47 (.agg (u8s 32 f).toArray) (.agg (u8s 32 g).toArray)).run Try.prog w = .ok (eqH f g) w := by
  have hp : ∀ (x : Nat → Nat) i, i < 32 → (part 5 (u8s 32 x).toArray i).run Try.prog w = .ok (.int .u8 (x i : Int)) w := fun x i hi => by
    have hagg : (isAgg 5).run Try.prog w = .ok false w := by
      unfold isAgg
      rw [Sem.run_bind, run_underlying Try.underlying5 w]
      rfl
    unfold part
    rw [Sem.run_bind, hagg]
    simp only [Result.andThen_ok, Bool.false_eq_true, if_false, List.getElem?_toArray, u8s_at hi]
    rfl
  have ho : ∃ i, Try.prog.info? 5 = some i := by
    cases h : Try.prog.info? 5 with
    | some i => exact ⟨i, rfl⟩
    | none => exact absurd (show (Try.prog.info? 5).isSome = true by kernel_rfl) (by rw [h]; decide)
  obtain ⟨i, hi⟩ := ho
  have hu : Try.prog.underlying 47 = some (.array 32 5) := Try.underlying47
  rw [show (10000 : Nat) = 9999 + 1 from rfl, run_equalIn_array w 9999 (u8s 32 f).toArray (u8s 32 g).toArray hu hi, cells_u8]
  have he : ∀ x y : Int, (Op.equalIn 9999 5 (.int .u8 x) (.int .u8 y)).run Try.prog w = .ok (x == y) w := fun x y => run_equalIn_int w 9998 5 .u8 .u8 x y Try.underlying5
  have key : ∀ is : List Nat, (∀ j, j ∈ is → j < 32) → (Op.eqItems 9999 5 1 (u8s 32 f).toArray (u8s 32 g).toArray is).run Try.prog w = .ok (decide (∀ j, j ∈ is → f j = g j)) w := by
    intro is
    induction is with
    | nil => intro _; simp [Op.eqItems]
    | cons j r ih =>
      intro hj
      have hj0 := hj j (.head _)
      have ih := ih fun k hk => hj k (.tail _ hk)
      simp only [Op.eqItems, Nat.mul_one, Sem.run_bind, hp f j hj0, hp g j hj0, Result.andThen_ok, he]
      by_cases e : f j = g j
      · simp [e, ih]
      · have : ¬ ((f j : Int) = (g j : Int)) := by omega
        simp [e, this]
  rw [key (List.range 32) (fun j hj => List.mem_range.1 hj), eqH_def]
end Go.Proofs.Ythbcgcncoggagaa
namespace Go.Proofs.Ythbcgcncoggagaa
open Go.RowKit
attribute [local irreducible] Calls
end Go.Proofs.Ythbcgcncoggagaa
namespace Go.Proofs.Ythbcgcncoggagaa
open Go.RowKit Go.ChangeShapes
end Go.Proofs.Ythbcgcncoggagaa
namespace Go.Proofs.Ythbcgcncoggagaa
open Go.RowKit Go.ChangeShapes
def RowsOf (B0 : Nat) (w0 : World) (L : List (Nat × Obj)) (v : Value) (xss : List (List Nat)) : Prop := ∃ a cap, ∃ V : Nat → Value, v = .slice a xss.length cap ∧ xss.length ≤ cap ∧ cap ≤ maxLen ∧
  (∀ j, j < xss.length → SliceOf B0 w0 L (V j) (xss.getD j []) ∧ (xss.getD j []).length ≤ reachBytes) ∧
  (xss ≠ [] → ∃ bb off, a = some ⟨bb, off, none⟩ ∧ ∀ w, Rep B0 w0 L w → ∀ j, j < xss.length → w.cell? ⟨bb, off + j, none⟩ = some (V j))
theorem weights_in {H : Type} {P : Program} {e : TypeId} : ∀ {l : List (DataW H)} {d : DataW H}, d ∈ l → ∀ n ∈ d.weights P e, n ∈ DataW.weightsAll P e l
  | d' :: r, d, hd, n, hn => by
    simp only [DataW.weightsAll, List.mem_append]
    rcases List.mem_cons.1 hd with rfl | h
    · exact Or.inl hn
    · exact Or.inr (weights_in h n hn)
theorem RowsOf.mono {B0 : Nat} {w0 : World} {L L' : List (Nat × Obj)} {v : Value} {xss : List (List Nat)} (h : RowsOf B0 w0 L v xss) (hL : ∀ w, Rep B0 w0 L' w → Rep B0 w0 L w) : RowsOf B0 w0 L' v xss := by
  obtain ⟨a, cap, V, h1, h2, h3, h4, h5⟩ := h
  exact ⟨a, cap, V, h1, h2, h3, fun j hj => ⟨(h4 j hj).1.mono hL, (h4 j hj).2⟩, fun hx => by
    obtain ⟨bb, off, h6, h7⟩ := h5 hx
    exact ⟨bb, off, h6, fun w hw => h7 w (hL w hw)⟩⟩
theorem RowsOf.any {B0 : Nat} {w0 : World} {L : List (Nat × Obj)} {v : Value} {xss : List (List Nat)} (h : RowsOf B0 w0 [] v xss) : RowsOf B0 w0 L v xss := h.mono fun w hw => hw.weaken (List.nil_sublist _)
end Go.Proofs.Ythbcgcncoggagaa
