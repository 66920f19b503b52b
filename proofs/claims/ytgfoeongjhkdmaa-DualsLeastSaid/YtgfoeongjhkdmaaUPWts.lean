/- The contract of polys.Weights. -/
import Derived.Test.YtgfoeongjhkdmaaUE
import Derived.Test.YtgfoeongjhkdmaaUR
set_option linter.unusedVariables false
set_option linter.unusedSimpArgs false
namespace Go.Proofs.Ytgfoeongjhkdmaa
open Go.RowKit
attribute [local irreducible] Calls Instr.build Instr.buildSlice Instr.makeSlice
theorem wpList_oneNum {ops : Array Oper} {rest : List Oper} {o : Oper} {a : Act} {Q : Exit → Act → World → Prop} {B0 : Nat} {w0 w : World} {L : List (Nat × Obj)} {x : Operand} {m : Nat} (hR : Rep B0 w0 L w) (hg : Region.wanted o (yielded ops a.tmps) = true) (hop : o.op = .buildSlice 27 1 #[(0, x)]) (hx : ev a x = some (num m))
    (h : ∀ b w', Rep B0 w0 ((b, .cells (nl m).toArray 24) :: L) w' → wpList Try.prog ops Q rest (a.put o.dst (.slice (some ⟨b, 0, none⟩) 1 1)) w') : wpList Try.prog ops Q (o :: rest) a w :=
  wpList_wanted hg fun _ hK => by
    have hx := xBv hx
    unfold Oper.wp execOp
    simp only [hop, List.map_toArray, List.map_cons, List.map_nil, hx, build_nums1, Sem.run_bind, Result.andThen_ok, Sem.run_pure]
    exact hK _ _ (h _ _ (hR.alloc _))
theorem nat_one {B0 : Nat} {w0 : World} {L : List (Nat × Obj)} {b x : Nat} (hx : x < B) (hm : (b, Obj.cells (nl x).toArray 24) ∈ L) : NAt B0 w0 L (some ⟨b, 0, none⟩) 1 1 (fun _ => x) :=
  ⟨Nat.le_refl _, by unfold maxLen; omega, fun _ _ => hx, fun _ => ⟨b, 0, rfl, fun w hw j hj => by
    obtain rfl : j = 0 := by omega
    exact hw.rangeAt (n := 4) hm rfl⟩⟩
noncomputable def uF (q n : Nat) (f : Nat → Nat) (i : Nat) : Nat := prodS q (sOf q 1) (othF q f i (f i)) (n - 1)
noncomputable def vF (q n : Nat) (f : Nat → Nat) (i : Nat) : Nat := if okE (uF q n f i) q then invM (uF q n f i) q else 0
noncomputable def wtE (q n : Nat) (f : Nat → Nat) : Nat → Int
  | 0 => 0
  | i + 1 => keepE (wtE q n f i) (invE (uF q n f i) q)
theorem uF_lt {q n : Nat} {f : Nat → Nat} (h1 : 1 < q) (i : Nat) : uF q n f i < q := prodS_lt h1 (sOf_lt h1 1) _
theorem vF_lt {q n : Nat} {f : Nat → Nat} (h1 : 1 < q) (i : Nat) : vF q n f i < q := by
  unfold vF
  split
  · by_cases hg : Nat.gcd (uF q n f i) q = 1
    · exact (invM_spec h1 (uF_lt h1 i) hg).1
    · rw [invM_no hg]; omega
  · omega
end Go.Proofs.Ytgfoeongjhkdmaa
