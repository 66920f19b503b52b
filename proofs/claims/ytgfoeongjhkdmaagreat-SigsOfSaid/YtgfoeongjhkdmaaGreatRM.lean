/- The laws' own helpers of layer 3: of, alive. -/
import Derived.Test.YtgfoeongjhkdmaaGreatRJ
import Derived.Test.YtgfoeongjhkdmaaGreatRMul
import Derived.Test.YtgfoeongjhkdmaaGreatRB
set_option linter.unusedVariables false
set_option linter.unusedSimpArgs false
namespace Go.Proofs.YtgfoeongjhkdmaaGreat
open Go.RowKit
theorem w_lit {a b m r : Nat} {e : Int} (ha : a < B) (hb : b < B) (hm : m < B) (hr : widN a b m = r) (he : (if m = 0 then (1 : Int) else 0) = e) (w : World) : Calls Tryz.prog 57 #[num a, num b, num m] w fun e' w' =>
    e' = .returned (.tuple #[num r, .int .i64 e]) ∧ Below w.heap.size w w' := by
  have := wide_any a b m ha hb hm w
  rwa [hr, he] at this
end Go.Proofs.YtgfoeongjhkdmaaGreat
namespace Go.Proofs.YtgfoeongjhkdmaaGreat
open Go.RowKit
attribute [local irreducible] Calls
theorem m_lit {a b l h : Nat} (ha : a < B) (hb : b < B) (hl : a * b % B = l) (hh : a * b / B = h) (w : World) : Calls Tryz.prog 83 #[num a, num b] w fun e w' =>
    e = .returned (.tuple #[num l, num h]) ∧ Below w.heap.size w w' := by
  have := mul_any a b ha hb w
  rw [hh, ← num_mod (a * b), hl] at this
  exact this
theorem a_lit {a b s : Nat} {c : Int} (ha : a < B) (hb : b < B) (hs : (a + b) % B = s) (hc : (((a + b) / B : Nat) : Int) = c) (w : World) : Calls Tryz.prog 61 #[num a, num b] w fun e w' =>
    e = .returned (.tuple #[num s, .int .u64 c]) ∧ Below w.heap.size w w' := by
  have := add_any a b ha hb w
  rw [hc, ← num_mod (a + b), hs] at this
  exact this
theorem cmp_lit {a b : Nat} {c : Int} (ha : a < B) (hb : b < B) (hc : cmpN a b = c) (w : World) : Calls Tryz.prog 41 #[num a, num b] w fun e w' =>
    e = .returned (.int .i64 c) ∧ Below w.heap.size w w' := by
  have := cmp_any a b ha hb w
  rwa [hc] at this
end Go.Proofs.YtgfoeongjhkdmaaGreat
namespace Go.Proofs.YtgfoeongjhkdmaaGreat
open Go.RowKit
section
variable {P : Program} {ops : Array Oper} {B0 : Nat} {w0 : World} {Kp : List (Nat × Obj)} {Q : Exit → Act → World → Prop}
abbrev ptrTo (b : Nat) : Value := .pointer (some ⟨b, 0, none⟩)
structure IsAlloc (P : Program) (o : Oper) (ob : Obj) : Prop where
  guard : o.guard = none
  run : ∀ (a : Act) (w : World), (execOp a.eval o).run P w = .ok (.value (ptrTo w.heap.size)) (w.alloc ob)
end
section
variable {P : Program} {ops : Array Oper} {B0 : Nat} {w0 : World} {ts : List Nat} {r acc : List Oper} {o : Oper} {a : Act} {K : List Oper → Act → Prop} {C : World → Prop} {Kp : List (Nat × Obj)}
theorem hd_keepAll (hw : Region.wanted o (yielded ops a.tmps) = true) {ty : TypeId} {x : Operand} (hop : o.op = .load ty x) {n : Nat} {b : Nat} (hx : a.eval x = .pointer (some ⟨b, 0, none⟩)) (hT : RowT P ty n) {l : List Value} {t : TypeId}
    (hm : (b, Obj.cells l.toArray t) ∈ Kp) (hn : l.length = n) {a' : Act} (ha : a.put o.dst (.agg l.toArray) = a') (h : xCm P ops (keeps B0 w0 Kp) C K ts r acc a') : xCm P ops (keeps B0 w0 Kp) C K (1 :: ts) (o :: r) acc a :=
  xAn hw hop hx hT hm (by simp [← hn]) hn ha h
end
end Go.Proofs.YtgfoeongjhkdmaaGreat
