/- More laws of drawn regions: classes of worlds that are told up to some value; steps that write beside steps that make. -/
import Derived.ArgAppend
import Derived.Test.YtdagdfcbnhfdkaaMO
import Derived.Test.YtdagdfcbnhfdkaaMA
import Derived.Maps.AppendAt
import Derived.Laws.MakeOwn
import Derived.Test.YtdagdfcbnhfdkaaMP
import Derived.Test.YtdagdfcbnhfdkaaMF
import Derived.Test.YtdagdfcbnhfdkaaMM
set_option linter.unusedVariables false
set_option linter.unusedSimpArgs false
namespace Go.Proofs.Ytdagdfcbnhfdkaa
open Go.RowKit
section
variable {P : Program} {ops : Array Oper} {B0 : Nat} {w0 : World} {tl : List Nat} {Kp : List (Nat × Obj)} {Q : Exit → Act → World → Prop} {L L' : List (Nat × Obj)}
end
end Go.Proofs.Ytdagdfcbnhfdkaa
namespace Go.Proofs.Ytdagdfcbnhfdkaa
open Go.RowKit
section
variable {P : Program} {ops : Array Oper} {B0 : Nat} {w0 : World} {Kp : List (Nat × Obj)} {Q : Exit → Act → World → Prop} {L L' : List (Nat × Obj)}
def uponF (P : Program) (R : Value → World → Prop) : Result Next → Prop
  | .ok (.value u) w' => R u w'
  | .ok .skip w' => R undef w'
  | .ok (.enter f args) w' => Calls P f args w' fun e w'' => ∃ v, e = .returned v ∧ R v w''
  | _ => False
def StepF (P : Program) (ops : Array Oper) (o : Oper) (a : Act) (C : World → Prop) (R : Value → World → Prop) : Prop :=
  (Region.wanted o (yielded ops a.tmps) = true ∧ ∀ w, C w → uponF P R ((execOp a.eval o).run P w)) ∨ (Region.wanted o (yielded ops a.tmps) = false ∧ ∀ w, C w → R undef w)
theorem StepF.wpOp {i : Nat} {o : Oper} {a : Act} {C : World → Prop} {R : Value → World → Prop} {K : Act → World → Prop} {w : World} (hi : ops[i]? = some o) (hy : StepF P ops o a C R) (hw : C w) (h : ∀ v w', R v w' → K (a.put o.dst v) w') : wpOp P ops Q i K a w := by
  unfold Go.wpOp
  simp only [hi]
  rcases hy with ⟨h1, h2⟩ | ⟨h1, h2⟩
  · rw [if_pos h1]
    refine .inl ?_
    have h3 := h2 w hw
    unfold Oper.wp
    generalize (execOp a.eval o).run P w = r at *
    cases r with
    | ok n w' =>
      cases n <;> simp only [uponF] at h3 <;> simp only [Oper.upon]
      case value u => exact h _ _ h3
      case skip => exact h _ _ h3
      case enter f args => exact h3.mono fun e w'' ⟨v, he, hc⟩ => by subst he; exact h _ _ hc
    | halt x w' => exact h3.elim
  · rw [if_neg (by rw [h1]; exact Bool.false_ne_true)]
    exact h _ _ (h2 w hw)
theorem StepF.of_put {o : Oper} {u : Value} {a : Act} {d : Option Tmp} {C : World → Prop} {R : Value → World → Prop} (hs : ∀ cs b, o.op ≠ .select cs b) (hd : ∀ t, d = some t → t ∉ o.looksAt ops) : StepF P ops o (a.put d u) C R ↔ StepF P ops o a C R := by
  unfold StepF
  rw [wanted_put o a d u hd, execOp_put o hs a d u hd]
end
end Go.Proofs.Ytdagdfcbnhfdkaa
namespace Go.Proofs.Ytdagdfcbnhfdkaa
open Go.RowKit
attribute [local irreducible] Calls
theorem build_77 (w : World) : (Instr.build 24 #[(0, .int .u64 77)]).run Try.prog w = .ok (.agg (nl 77).toArray) w := by
  have e : nl 77 = [.int .u64 77, .int .u64 0, .int .u64 0, .int .u64 0] := by
    unfold nl
    simp [xCr]
  have h : (Instr.build 24 #[(0, .int .u64 77)]).run Try.prog w = .ok (.agg [Value.int .u64 77, .int .u64 0, .int .u64 0, .int .u64 0].toArray) w := by kernel_rfl
  rw [e]
  exact h
attribute [local irreducible] Instr.build Instr.buildSlice
section
variable {B0 : Nat} {w0 w : World} {L : List (Nat × Obj)}
def TwAt (M : List (Nat × Obj)) : RT → List Value → Prop
  | .leaf, _ => False
  | .node n t k p, l => n < B ∧ t < B ∧ ∃ g cap, ∃ cur : List Value, ∃ V : Nat → List Value, l = rrow n t (.slice (some ⟨g, 0, none⟩) k cap) ∧ k + 1 ≤ cap ∧ cap ≤ maxLen ∧ cur.length = cap * 9 ∧ (g, Obj.cells cur.toArray 27) ∈ M ∧
      (∀ j, j < k → (cur.drop (j * 9)).take 9 = V j) ∧ (cur.drop (k * 9)).take 9 = rrow 77 0 (.slice none 0 0) ∧ ∀ j, j < k → TwAt M (p j) (V j)
theorem TwAt.mono {M M' : List (Nat × Obj)} (hM : ∀ p, p ∈ M → p ∈ M') : ∀ {r : RT} {l : List Value}, TwAt M r l → TwAt M' r l
  | .leaf, _, h => h.elim
  | .node n t k p, l, ⟨h1, h2, g, cap, cur, V, h3, h4, h5, h6, h7, h8, h9, h10⟩ => ⟨h1, h2, g, cap, cur, V, h3, h4, h5, h6, hM _ h7, h8, h9, fun j hj => TwAt.mono hM (h10 j hj)⟩
theorem TwAt.row {M : List (Nat × Obj)} : ∀ {r : RT} {l : List Value}, TwAt M r l → ∃ t a k c, l = rrow r.num t (.slice a k c) ∧ r.num < B ∧ t < B
  | .leaf, _, h => h.elim
  | .node n t k p, l, ⟨h1, h2, g, cap, cur, V, h3, _⟩ => ⟨t, _, k, cap, h3, h1, h2⟩
end
end Go.Proofs.Ytdagdfcbnhfdkaa
namespace Go.Proofs.Ytdagdfcbnhfdkaa
open Go.RowKit
attribute [local irreducible] Calls Instr.build Instr.buildSlice
theorem wpList_build1P {P : Program} {ops : Array Oper} {rest : List Oper} {o : Oper} {a : Act} {w : World} {Q : Exit → Act → World → Prop} (hg : o.guard = none) {t : TypeId} {x : Operand} (hop : o.op = .build t #[(0, x)]) {vx v : Value} (hx : ev a x = some vx)
    (hrun : ∀ w, (Instr.build t #[(0, vx)]).run P w = .ok v w) (h : wpList P ops Q rest (a.put o.dst v) w) : wpList P ops Q (o :: rest) a w :=
  wpList_plain hg fun _ hK => by
    have hx := xBt hx
    unfold Oper.wp execOp
    simp only [hop, List.map_toArray, List.map_cons, List.map_nil, hx, hrun, Sem.run_bind, Result.andThen_ok, Sem.run_pure]
    exact hK _ _ h
end Go.Proofs.Ytdagdfcbnhfdkaa
namespace Go.Proofs.Ytdagdfcbnhfdkaa
open Go.RowKit
section
variable {B0 : Nat} {w0 w : World} {L : List (Nat × Obj)}
theorem hd_loadFrom {ops : Array Oper} {ts : List Nat} {r acc : List Oper} {o : Oper} {a : Act} {K : List Oper → Act → Prop} {I : (World → Prop) → Prop} (hw : Region.wanted o (yielded ops a.tmps) = true) {ty : TypeId} {x : Operand} (hop : o.op = .load ty x) {ad : Addr} (hx : a.eval x = .pointer (some ad)) {v : Value}
    (hrun : ∀ w, Rep B0 w0 L w → (loadVar ty ad).run Try.prog w = .ok v w) {a' : Act} (ha : a.put o.dst v = a') (h : xBu Try.prog ops I (Rep B0 w0 L) K ts r acc a') : xBu Try.prog ops I (Rep B0 w0 L) K (0 :: ts) (o :: r) acc a :=
  hd_step hw (fun w hR => by
    unfold execOp
    simp only [hop, hx, Instr.loadAt, Instr.sureAddr, Sem.run_bind, Sem.run_pure, Result.andThen_ok, hrun w hR]
    exact ⟨rfl, hR⟩) ha h
end
end Go.Proofs.Ytdagdfcbnhfdkaa
namespace Go.Proofs.Ytdagdfcbnhfdkaa
open Go.RowKit
section
variable {P : Program} {ops : Array Oper} {ts : List Nat} {r acc : List Oper} {o : Oper} {a a' : Act} {K : List Oper → Act → Prop} {I : (World → Prop) → Prop} {C : World → Prop} {m : Nat}
theorem hd_len (hm : m ≠ 2) (hw : Region.wanted o (yielded ops a.tmps) = true) {x : Operand} {us : Array TypeId} (hop : o.op = .call { callee := .builtin .len, args := #[x], argTypes := us }) {u v : Value} (hx : ev a x = some u) (hq : ∀ w, (Builtin.len_ us o.type #[u]).run P w = .ok v w)
    (ha : a.put o.dst v = a') (h : xBu P ops I C K ts r acc a') : xBu P ops I C K (m :: ts) (o :: r) acc a :=
  xCj hm hw (fun w => by
    have hx := xBt hx
    generalize a.eval = E at *
    unfold execOp
    simp only [hop]
    go_simp) ha h
end
end Go.Proofs.Ytdagdfcbnhfdkaa
namespace Go.Proofs.Ytdagdfcbnhfdkaa
open Go.RowKit
section
variable {P : Program} {ops : Array Oper} {ts : List Nat} {r acc : List Oper} {o : Oper} {a a' : Act} {K : List Oper → Act → Prop} {I : (World → Prop) → Prop} {C : World → Prop} {m : Nat}
theorem hd_both (b : Bool) {u : Value} (hm : m ≠ 2) (hF : b = false → Region.wanted o (yielded ops a.tmps) = false) (hT : b = true → xBu P ops I C K ts r acc (a.put o.dst u) → xBu P ops I C K (m :: ts) (o :: r) acc a)
    (h : xBu P ops I C K ts r acc (a.put o.dst (cond b u undef))) : xBu P ops I C K (m :: ts) (o :: r) acc a := by
  cases b
  · exact xBk hm (hF rfl) rfl h
  · exact hT rfl h
theorem hd_pickAnd (hm : m ≠ 2) (hw : Region.wanted o (yielded ops a.tmps) = true) {x y z : Operand} (hop : o.op = .pick x y z) {b e c : Bool} (hx : ev a x = some (.bool b)) (hy : ev a y = some (cond b (.bool e) undef)) (hz : ev a z = some (.bool false)) (hc : (b && e) = c)
    (ha : a.put o.dst (.bool c) = a') (h : xBu P ops I C K ts r acc a') : xBu P ops I C K (m :: ts) (o :: r) acc a := by
  subst hc
  cases b
  · exact xBi hm hw hop (b := false) (xBt hx) hz ha h
  · exact xBi hm hw hop (b := true) (xBt hx) hy ha h
theorem hd_pickOr (hm : m ≠ 2) (hw : Region.wanted o (yielded ops a.tmps) = true) {x y z : Operand} (hop : o.op = .pick x y z) {b e c : Bool} (hx : ev a x = some (.bool b)) (hy : ev a y = some (.bool true)) (hz : ev a z = some (cond b undef (.bool e))) (hc : (b || e) = c)
    (ha : a.put o.dst (.bool c) = a') (h : xBu P ops I C K ts r acc a') : xBu P ops I C K (m :: ts) (o :: r) acc a := by
  subst hc
  cases b
  · exact xBi hm hw hop (b := false) (xBt hx) hz ha h
  · exact xBi hm hw hop (b := true) (xBt hx) hy ha h
end
end Go.Proofs.Ytdagdfcbnhfdkaa
