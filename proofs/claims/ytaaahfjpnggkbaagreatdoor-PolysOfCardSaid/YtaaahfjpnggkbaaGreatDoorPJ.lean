/- Powers that go round: the plain part. -/
import Derived.Test.YtaaahfjpnggkbaaGreatDoorPG
import Derived.Test.YtaaahfjpnggkbaaGreatDoorPA
set_option linter.unusedVariables false
set_option linter.unusedSimpArgs false
namespace Go.Proofs.YtaaahfjpnggkbaaGreatDoor
open Go.RowKit
end Go.Proofs.YtaaahfjpnggkbaaGreatDoor
namespace Go.Proofs.YtaaahfjpnggkbaaGreatDoor
open Go.RowKit
section
variable {P : Program} {ops : Array Oper} {B0 : Nat} {w0 : World} {L : List (Nat × Obj)} {ts : List Nat} {r acc : List Oper} {o : Oper} {a : Act} {K : List Oper → Act → Prop} {I : (World → Prop) → Prop} {C : World → Prop}
theorem hd_callR (hw : Region.wanted o (yielded ops a.tmps) = true) {f : FuncId} {xs : List Operand} {us : Array TypeId} (hop : o.op = .call { callee := .value (.func f), args := xs.toArray, argTypes := us }) {vs : List Value} {v : Value} (hx' : evL a xs = some vs)
    (hent : ∀ w, (callFunc f vs.toArray).run P w = .ok (.enter f vs.toArray) w) (hq : ∀ w, Rep B0 w0 L w → Calls P f vs.toArray w fun e w' => e = .returned v ∧ Rep B0 w0 L w')
    {a' : Act} (ha : a.put o.dst v = a') (h : xBv P ops I (Rep B0 w0 L) K ts r acc a') : xBv P ops I (Rep B0 w0 L) K (0 :: ts) (o :: r) acc a :=
  hd_step hw (fun w hR => by
    have e : (execOp a.eval o).run P w = .ok (.enter f vs.toArray) w := by
      have hx := xCy hx'
      unfold execOp
      simp only [hop, resolve, Deferred.ofValue, Act.eval, Sem.run_bind, Sem.run_pure, Result.andThen_ok, hx]
      have := hent w
      simpa [invoke] using this
    rw [e]
    exact (hq w hR).mono fun e' w' ⟨he, hb⟩ => ⟨he, hb⟩) ha h
end
end Go.Proofs.YtaaahfjpnggkbaaGreatDoor
namespace Go.Proofs.YtaaahfjpnggkbaaGreatDoor
open Go.RowKit
attribute [local irreducible] Calls
section
variable {P : Program} {ops : Array Oper} {B0 : Nat} {w0 : World} {L : List (Nat × Obj)} {ts : List Nat} {r acc : List Oper} {o : Oper} {a : Act} {K : List Oper → Act → Prop} {I : (World → Prop) → Prop} {C : World → Prop}
theorem hd_makeFunc {m : Nat} (hm : m ≠ 2) (hw : Region.wanted o (yielded ops a.tmps) = true) {f : Fn} {xs ys : List Operand} (hop : o.op = .makeFunc f xs.toArray ys.toArray) {vs us : List Value} (hx' : evL a xs = some vs) (hy' : evL a ys = some us)
    {a' : Act} (ha : a.put o.dst (.func f vs.toArray us.toArray) = a') (h : xBv P ops I C K ts r acc a') : xBv P ops I C K (m :: ts) (o :: r) acc a :=
  xCp hm hw (fun w => by
    have hx := xCy hx'
    have hy := xCy hy'
    unfold execOp
    simp only [hop, hx, hy]
    rfl) ha h
end
end Go.Proofs.YtaaahfjpnggkbaaGreatDoor
