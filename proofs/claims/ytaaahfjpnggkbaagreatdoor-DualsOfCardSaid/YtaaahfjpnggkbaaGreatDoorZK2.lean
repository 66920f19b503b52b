import Derived.Test.YtaaahfjpnggkbaaGreatDoorZE
import Derived.Test.YtaaahfjpnggkbaaGreatDoorZR
set_option linter.unusedSimpArgs false
set_option linter.unusedVariables false
set_option maxRecDepth 100000
set_option maxHeartbeats 20000000
namespace Go.Proofs.YtaaahfjpnggkbaaGreatDoor
open Go.RowKit
section
attribute [local irreducible] Calls Instr.build Instr.buildSlice Instr.makeSlice
theorem xGy {ops : Array Oper} {rest : List Oper} {o : Oper} {a : Act} {Q : Exit → Act → World → Prop} {B0 : Nat} {w0 w : World} {L : List (Nat × Obj)} {x : Operand} {m : Nat} (hR : Rep B0 w0 L w) (hg : Region.wanted o (yielded ops a.tmps) = true) (hop : o.op = .buildSlice 27 1 #[(0, x)]) (hx : ev a x = some (num m))
  (h : ∀ b w', Rep B0 w0 ((b, .cells (nl m).toArray 24) :: L) w' → wpList Tryz.prog ops Q rest (a.put o.dst (.slice (some ⟨b, 0, none⟩) 1 1)) w') : wpList Tryz.prog ops Q (o :: rest) a w :=
 xEu hg fun _ hK => by
  have hx := xBj hx
  unfold Oper.wp execOp
  simp only [hop, List.map_toArray, List.map_cons, List.map_nil, hx, xJn, Sem.run_bind, Result.andThen_ok, Sem.run_pure]
  exact hK _ _ (h _ _ (hR.alloc _))
theorem nat_one {B0 : Nat} {w0 : World} {L : List (Nat × Obj)} {b x : Nat} (hx : x < B) (hm : (b, Obj.cells (nl x).toArray 24) ∈ L) : NAt B0 w0 L (some ⟨b, 0, none⟩) 1 1 (fun _ => x) :=
 ⟨Nat.le_refl _, by unfold maxLen; omega, fun _ _ => hx, fun _ => ⟨b, 0, rfl, fun w hw j hj => by
  obtain rfl : j = 0 := by omega
  exact hw.rangeAt (n := 4) hm rfl⟩⟩
end
section
attribute [local irreducible] Calls Instr.build Instr.buildSlice Instr.makeSlice
section
variable {P : Program} {ops : Array Oper} {B0 : Nat} {w0 w : World} {L L' : List (Nat × Obj)} {r rest : List Oper} {o : Oper} {a : Act} {Q : Exit → Act → World → Prop} {Kp : List (Nat × Obj)} {v : Value}
theorem tl_y (hy : xBg P ops o v a (Rep B0 w0 L) (Rep B0 w0 L')) (hk : ∀ p, p ∈ Kp → p ∈ L') {a' : Act} (ha : a.put o.dst v = a') (h : xEt P ops (xDa B0 w0 Kp) Q r (Rep B0 w0 L') a') : xEt P ops (xDa B0 w0 Kp) Q (o :: r) (Rep B0 w0 L) a :=
 ⟨v, _, hy, ⟨L', rfl, hk⟩, by rw [ha]; exact h⟩
end
section
variable {ops : Array Oper} {B0 : Nat} {w0 w : World} {L L' : List (Nat × Obj)} {rest : List Oper} {o : Oper} {a : Act} {Q : Exit → Act → World → Prop}
theorem rowsN_row {f : Nat → Nat} {n j : Nat} (hj : j < n) : ((xBy f n).drop (j * 4)).take 4 = nl (f j) := by
 refine List.ext_getElem? fun k => ?_
 rw [List.getElem?_take]
 by_cases hk : k < 4
 ·rw [if_pos hk, List.getElem?_drop, xGu f n j k hj hk]
 ·rw [if_neg hk]
  exact (List.getElem?_eq_none (by rw [xGm]; omega)).symm
theorem xFv {f : Nat → Nat} {n : Nat} (hn : n ≤ 1000000) : NOwn n (xBy f n) n f := ⟨Nat.le_refl _, by unfold maxLen; omega, xBf _ _, List.take_of_length_le (by rw [xBf]; exact Nat.le_refl _)⟩
end
end
section
attribute [local irreducible] Calls Instr.build Instr.buildSlice Instr.makeSlice
end
end Go.Proofs.YtaaahfjpnggkbaaGreatDoor
