/- The walk of balefirelaw07.PrimesLeft. -/
import Derived.Test.YtaaahfjpnggkbaaGreatDoorPS
import Derived.Test.YtaaahfjpnggkbaaGreatDoorPM
import Derived.Test.YtaaahfjpnggkbaaGreatDoorPG
import Derived.Deep.Cut
set_option linter.unusedVariables false
set_option linter.unusedSimpArgs false
namespace Go.Proofs.YtaaahfjpnggkbaaGreatDoor
open Go.RowKit
attribute [local irreducible] Calls Instr.build Instr.buildSlice
end Go.Proofs.YtaaahfjpnggkbaaGreatDoor
namespace Go.Proofs.YtaaahfjpnggkbaaGreatDoor
open Go.RowKit
attribute [local irreducible] Calls Instr.build Instr.buildSlice
theorem hd_loadKP {ops : Array Oper} {B0 : Nat} {w0 : World} {Kp : List (Nat × Obj)} {C : World → Prop} {ts : List Nat} {r acc : List Oper} {o : Oper} {a : Act} {K : List Oper → Act → Prop} (hw : Region.wanted o (yielded ops a.tmps) = true) {ty : TypeId} {x : Operand} (hop : o.op = .load ty x) {ad : Addr} (hx : a.eval x = .pointer (some ad)) {v : Value}
    (hrun : ∀ L w, Rep B0 w0 L w → (loadVar ty ad).run Tryz.prog w = .ok v w) {a' : Act} (ha : a.put o.dst v = a') (h : xBv Tryz.prog ops (xCw B0 w0 Kp) C K ts r acc a') : xBv Tryz.prog ops (xCw B0 w0 Kp) C K (1 :: ts) (o :: r) acc a :=
  hd_keep hw (fun L w hL hR => by
    unfold execOp
    simp only [hop, hx, Instr.loadAt, Instr.sureAddr, Sem.run_bind, Sem.run_pure, Result.andThen_ok, hrun L w hR]
    exact ⟨rfl, hR⟩) ha h
end Go.Proofs.YtaaahfjpnggkbaaGreatDoor
