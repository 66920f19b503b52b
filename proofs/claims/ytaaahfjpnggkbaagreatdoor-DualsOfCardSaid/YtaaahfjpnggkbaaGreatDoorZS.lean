import Derived.Test.YtaaahfjpnggkbaaGreatDoorZO
import Derived.Test.YtaaahfjpnggkbaaGreatDoorZWide
import Derived.Test.YtaaahfjpnggkbaaGreatDoorZP
import Derived.Test.YtaaahfjpnggkbaaGreatDoorZF
import Derived.Test.YtaaahfjpnggkbaaGreatDoorZM
import Derived.Test.YtaaahfjpnggkbaaGreatDoorZG
import Derived.Deep.Cut
set_option linter.unusedSimpArgs false
set_option linter.unusedVariables false
set_option maxRecDepth 100000
set_option maxHeartbeats 20000000
namespace Go.Proofs.YtaaahfjpnggkbaaGreatDoor
open Go.RowKit
section
attribute [local irreducible] Calls
attribute [local irreducible] Instr.build
end
section
attribute [local irreducible] Calls Instr.build Instr.buildSlice
end
section
attribute [local irreducible] Calls Instr.build Instr.buildSlice
end
section
attribute [local irreducible] Calls Instr.build Instr.buildSlice
end
section
attribute [local irreducible] Calls Instr.build Instr.buildSlice
end
section
attribute [local irreducible] Calls Instr.build Instr.buildSlice
end
section
attribute [local irreducible] Calls Instr.build Instr.buildSlice
theorem hd_loadKP {ops : Array Oper} {B0 : Nat} {w0 : World} {Kp : List (Nat × Obj)} {C : World → Prop} {ts : List Nat} {r acc : List Oper} {o : Oper} {a : Act} {K : List Oper → Act → Prop} (hw : Region.wanted o (yielded ops a.tmps) = true) {ty : TypeId} {x : Operand} (hop : o.op = .load ty x) {ad : Addr} (hx : a.eval x = .pointer (some ad)) {v : Value}
  (hrun : ∀ L w, Rep B0 w0 L w → (loadVar ty ad).run Tryz.prog w = .ok v w) {a' : Act} (ha : a.put o.dst v = a') (h : xBr Tryz.prog ops (xDa B0 w0 Kp) C K ts r acc a') : xBr Tryz.prog ops (xDa B0 w0 Kp) C K (1 :: ts) (o :: r) acc a :=
 hd_keep hw (fun L w hL hR => by
  unfold execOp
  simp only [hop, hx, Instr.loadAt, Instr.sureAddr, Sem.run_bind, Sem.run_pure, Result.andThen_ok, hrun L w hR]
  exact ⟨rfl, hR⟩) ha h
end
end Go.Proofs.YtaaahfjpnggkbaaGreatDoor
