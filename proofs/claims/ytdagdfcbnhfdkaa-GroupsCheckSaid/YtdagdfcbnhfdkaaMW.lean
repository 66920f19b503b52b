/- The walk of balefirelaw07.PrimesLeft. -/
import Derived.Test.YtdagdfcbnhfdkaaMS
import Derived.Test.YtdagdfcbnhfdkaaMM
import Derived.Test.YtdagdfcbnhfdkaaMG
import Derived.Deep.Cut
set_option linter.unusedVariables false
set_option linter.unusedSimpArgs false
namespace Go.Proofs.Ytdagdfcbnhfdkaa
open Go.RowKit
attribute [local irreducible] Calls Instr.build Instr.buildSlice
end Go.Proofs.Ytdagdfcbnhfdkaa
namespace Go.Proofs.Ytdagdfcbnhfdkaa
open Go.RowKit
attribute [local irreducible] Calls Instr.build Instr.buildSlice
theorem hd_loadKP {ops : Array Oper} {B0 : Nat} {w0 : World} {Kp : List (Nat × Obj)} {C : World → Prop} {ts : List Nat} {r acc : List Oper} {o : Oper} {a : Act} {K : List Oper → Act → Prop} (hw : Region.wanted o (yielded ops a.tmps) = true) {ty : TypeId} {x : Operand} (hop : o.op = .load ty x) {ad : Addr} (hx : a.eval x = .pointer (some ad)) {v : Value}
    (hrun : ∀ L w, Rep B0 w0 L w → (loadVar ty ad).run Try.prog w = .ok v w) {a' : Act} (ha : a.put o.dst v = a') (h : xBu Try.prog ops (keeps B0 w0 Kp) C K ts r acc a') : xBu Try.prog ops (keeps B0 w0 Kp) C K (1 :: ts) (o :: r) acc a :=
  hd_keep hw (fun L w hL hR => by
    unfold execOp
    simp only [hop, hx, Instr.loadAt, Instr.sureAddr, Sem.run_bind, Sem.run_pure, Result.andThen_ok, hrun L w hR]
    exact ⟨rfl, hR⟩) ha h
theorem hd_loadP {ops : Array Oper} {B0 : Nat} {w0 : World} {L : List (Nat × Obj)} {ts : List Nat} {r acc : List Oper} {o : Oper} {a : Act} {K : List Oper → Act → Prop} {I : (World → Prop) → Prop} (hw : Region.wanted o (yielded ops a.tmps) = true) {ty : TypeId} {x : Operand} (hop : o.op = .load ty x) {ad : Addr} (hx : a.eval x = .pointer (some ad)) {v : Value}
    (hrun : ∀ L w, Rep B0 w0 L w → (loadVar ty ad).run Try.prog w = .ok v w) {a' : Act} (ha : a.put o.dst v = a') (h : xBu Try.prog ops I (Rep B0 w0 L) K ts r acc a') : xBu Try.prog ops I (Rep B0 w0 L) K (0 :: ts) (o :: r) acc a :=
  hd_step hw (fun w hR => by
    unfold execOp
    simp only [hop, hx, Instr.loadAt, Instr.sureAddr, Sem.run_bind, Sem.run_pure, Result.andThen_ok, hrun L w hR]
    exact ⟨rfl, hR⟩) ha h
theorem num_load {w : World} {bb o n t : Nat} {v : Value} (h : w.rangeAt bb o (rrow n t v)) : (loadVar 24 ⟨bb, o, none⟩).run Try.prog w = .ok (num n) w := by
  obtain ⟨d, hu, hd, hi⟩ := (inferInstance : RowT Try.prog 24 4).is
  refine run_loadVar_mid w bb o 24 (nl n) d (fun j u hj => h j u ?_) hu hd (by rw [hi]; rfl)
  rw [← rr_n n t v, List.drop_zero, List.getElem?_take] at hj
  split at hj
  · exact hj
  · cases hj
end Go.Proofs.Ytdagdfcbnhfdkaa
