/- Guarded loads in a plain region. -/
import Derived.Test.YtdmdkdodfngjiaaOrd
set_option linter.unusedSimpArgs false
set_option linter.unusedVariables false
namespace Go.Proofs.Ytdmdkdodfngjiaa
open Go.RowKit
section
variable {P : Program} {ops : Array Oper} {rest : List Oper} {o : Oper} {a : Act} {w w0 : World} {Q : Exit → Act → World → Prop} {B0 : Nat} {L : List (Nat × Obj)}
theorem wpList_wanted (hw : Region.wanted o (yielded ops a.tmps) = true) (h : ∀ K : Act → World → Prop, (∀ a w, wpList P ops Q rest a w → K a w) → o.wp P a w K Q) : wpList P ops Q (o :: rest) a w :=
  wpList_step fun K hK => by simp only [hw, if_true]; exact h K hK
theorem wpList_loadRowG (hR : Rep B0 w0 L w) (hg : Region.wanted o (yielded ops a.tmps) = true) {ty : TypeId} {x : Operand} (ho : o.op = .load ty x) {n : Nat} {b off : Nat} (hx : a.eval x = .pointer (some ⟨b, off, none⟩)) (hT : RowT P ty n) {l vs : List Value} {t : TypeId}
    (hm : (b, Obj.cells l.toArray t) ∈ L) (hv : (l.drop off).take n = vs) (hn : vs.length = n) (h : wpList P ops Q rest (a.put o.dst (.agg vs.toArray)) w) : wpList P ops Q (o :: rest) a w :=
  wpList_wanted hg fun _ hK => by
    unfold Oper.wp execOp
    simp only [ho, hx, Instr.loadAt, Instr.sureAddr, Sem.run_bind, Sem.run_pure, Result.andThen_ok, hR.loadRow (P := P) (ty := ty) hm hv hn]
    exact hK _ _ h
theorem wpList_loadAllG (hR : Rep B0 w0 L w) (hg : Region.wanted o (yielded ops a.tmps) = true) {ty : TypeId} {x : Operand} (ho : o.op = .load ty x) {n : Nat} {b : Nat} (hx : a.eval x = .pointer (some ⟨b, 0, none⟩)) (hT : RowT P ty n) {l : List Value} {t : TypeId}
    (hm : (b, Obj.cells l.toArray t) ∈ L) (hn : l.length = n) (h : wpList P ops Q rest (a.put o.dst (.agg l.toArray)) w) : wpList P ops Q (o :: rest) a w :=
  wpList_loadRowG hR hg ho hx hT hm (by simp [← hn]) hn h
theorem wpList_loadCellG (hR : Rep B0 w0 L w) (hg : Region.wanted o (yielded ops a.tmps) = true) {ty : TypeId} {x : Operand} (ho : o.op = .load ty x) {b off : Nat} (hx : a.eval x = .pointer (some ⟨b, off, none⟩)) (hT : CellT P ty) {l : List Value} {v : Value} {t : TypeId}
    (hm : (b, Obj.cells l.toArray t) ∈ L) (hv : l[off]? = some v) (h : wpList P ops Q rest (a.put o.dst v) w) : wpList P ops Q (o :: rest) a w :=
  wpList_wanted hg fun _ hK => by
    unfold Oper.wp execOp
    simp only [ho, hx, Instr.loadAt, Instr.sureAddr, Sem.run_bind, Sem.run_pure, Result.andThen_ok, hR.loadCell (P := P) (ty := ty) hm hv]
    exact hK _ _ h
end
end Go.Proofs.Ytdmdkdodfngjiaa
