import Derived.Test.YtaaahfjpnggkbaaGreatDoorHO
import Derived.Test.YtaaahfjpnggkbaaGreatDoorHF2
import Derived.Test.YtaaahfjpnggkbaaGreatDoorHM
import Derived.Test.YtaaahfjpnggkbaaGreatDoorHG
import Derived.Deep.Cut
import Derived.ChangeArms
import Derived.Test.YtaaahfjpnggkbaaGreatDoorHN
set_option linter.unusedSimpArgs false
set_option linter.unusedVariables false
set_option maxRecDepth 100000
set_option maxHeartbeats 20000000
namespace Go.Proofs.YtaaahfjpnggkbaaGreatDoor
open Go.RowKit
section
attribute [local irreducible] Calls
noncomputable def rrow (n t : Nat) (v : Value) : List Value := [.int .u64 (wd n 0), .int .u64 (wd n 1), .int .u64 (wd n 2), .int .u64 (wd n 3), .int .u64 (wd t 0), .int .u64 (wd t 1), .int .u64 (wd t 2), .int .u64 (wd t 3), v]
@[simp] theorem rrow_length (n t : Nat) (v : Value) : (rrow n t v).length = 9 := rfl
instance zeroReason : xKf Tryz.prog 145 [.int .u64 0, .int .u64 0, .int .u64 0, .int .u64 0, .int .u64 0, .int .u64 0, .int .u64 0, .int .u64 0, .slice none 0 0] := ⟨.agg (List.toArray [.int .u64 0, .int .u64 0, .int .u64 0, .int .u64 0, .int .u64 0, .int .u64 0, .int .u64 0, .int .u64 0, .slice none 0 0]), by kernel_rfl, rfl⟩
def RAt (B0 : Nat) (w0 : World) (L : List (Nat × Obj)) : RT → List Value → Prop
  | .leaf, _ => False
  | .node n t k p, l => n < B ∧ t < B ∧ ∃ a cap, ∃ V : Nat → List Value, l = rrow n t (.slice a k cap) ∧ k ≤ cap ∧ cap ≤ maxLen ∧
      (k ≠ 0 → ∃ bb off, a = some ⟨bb, off, none⟩ ∧ ∀ w, Rep B0 w0 L w → ∀ j, j < k → w.rangeAt bb (off + j * 9) (V j)) ∧ ∀ j, j < k → RAt B0 w0 L (p j) (V j)
theorem xBr {ops : Array Oper} {rest : List Oper} {o : Oper} {a : Act} {w : World} {Q : Exit → Act → World → Prop} (hg : o.guard = none) {ty : TypeId} {x : Operand} (ho : o.op = .load ty x) {ad : Addr} (hx : a.eval x = .pointer (some ad)) {v : Value}
  (hrun : (loadVar ty ad).run Tryz.prog w = .ok v w) (h : wpList Tryz.prog ops Q rest (a.put o.dst v) w) : wpList Tryz.prog ops Q (o :: rest) a w :=
 wpList_plain hg fun _ hK => by
  unfold Oper.wp execOp
  simp only [ho, hx, Instr.loadAt, Instr.sureAddr, Sem.run_bind, Sem.run_pure, Result.andThen_ok, hrun]
  exact hK _ _ h
theorem xBo {α : Type} {P : Program} {c : Code} {Q : Exit → Act → World → Prop} {l : List Value} {d : List Deferred} {w w0 : World} {B0 : Nat} {L : List (Nat × Obj)} (hR : Rep B0 w0 L w) (mask : List Bool) (upd : α → List Value → List Value) (μ : α → Nat) (Ok : α → Prop) (x0 : α)
  (h0 : xGq mask (upd x0 l) l) (hO : Ok x0)
  (hs : ∀ x tm w, Ok x → xGq mask (upd x l) tm → Rep B0 w0 L w → ∀ K : Act → World → Prop, Held (∀ y tm' w', Ok y → μ y < μ x → xGq mask (upd y l) tm' → Rep B0 w0 L w' → K ⟨tm'.toArray, d⟩ w') → c.wp P (Exit.then K Q) ⟨tm.toArray, d⟩ w) : (Code.loop c).wp P Q ⟨l.toArray, d⟩ w :=
 xAv mask upd (fun _ => L) μ Ok x0 h0 hO hR hs
section
variable {B0 : Nat} {w0 w : World} {L L' : List (Nat × Obj)}
theorem RAt.mono (hL : ∀ w, Rep B0 w0 L' w → Rep B0 w0 L w) : ∀ {r : RT} {l : List Value}, RAt B0 w0 L r l → RAt B0 w0 L' r l
  | .leaf, _, h => h.elim
  | .node n t k p, l, ⟨h1, h2, a, cap, V, h3, h4, h5, h6, h7⟩ => ⟨h1, h2, a, cap, V, h3, h4, h5, fun hk => by
      obtain ⟨bb, off, q1, q2⟩ := h6 hk
      exact ⟨bb, off, q1, fun w hw => q2 w (hL w hw)⟩, fun j hj => RAt.mono hL (h7 j hj)⟩
theorem RAt.any {r : RT} {l : List Value} (h : RAt B0 w0 [] r l) : RAt B0 w0 L r l := h.mono fun w hw => hw.weaken (List.nil_sublist _)
theorem RAt.len : ∀ {r : RT} {l : List Value}, RAt B0 w0 L r l → l.length = 9
 | .leaf, _, h => h.elim
 | .node n t k p, l, ⟨_, _, a, cap, V, h3, _⟩ => by rw [h3]; rfl
theorem RAt.row : ∀ {r : RT} {l : List Value}, RAt B0 w0 L r l → ∃ t a k c, l = rrow r.num t (.slice a k c) ∧ r.num < B ∧ t < B
 | .leaf, _, h => h.elim
 | .node n t k p, l, ⟨h1, h2, a, cap, V, h3, _⟩ => ⟨t, a, k, cap, h3, h1, h2⟩
end
end
section
attribute [local irreducible] Calls Instr.build Instr.buildSlice
end
section
attribute [local irreducible] Calls Instr.build Instr.buildSlice
end
section
attribute [local irreducible] Calls Instr.build Instr.buildSlice
end
section
attribute [local irreducible] Calls Instr.build Instr.buildSlice
end
section
attribute [local irreducible] Calls Instr.build Instr.buildSlice
end
section
attribute [local irreducible] Calls Instr.build Instr.buildSlice
theorem xDr {ops : Array Oper} {B0 : Nat} {w0 : World} {Kp : List (Nat × Obj)} {C : World → Prop} {ts : List Nat} {r acc : List Oper} {o : Oper} {a : Act} {K : List Oper → Act → Prop} (hw : Region.wanted o (yielded ops a.tmps) = true) {ty : TypeId} {x : Operand} (hop : o.op = .load ty x) {ad : Addr} (hx : a.eval x = .pointer (some ad)) {v : Value}
  (hrun : ∀ L w, Rep B0 w0 L w → (loadVar ty ad).run Tryz.prog w = .ok v w) {a' : Act} (ha : a.put o.dst v = a') (h : xBn Tryz.prog ops (xDa B0 w0 Kp) C K ts r acc a') : xBn Tryz.prog ops (xDa B0 w0 Kp) C K (1 :: ts) (o :: r) acc a :=
 xJa hw (fun L w hL hR => by
  unfold execOp
  simp only [hop, hx, Instr.loadAt, Instr.sureAddr, Sem.run_bind, Sem.run_pure, Result.andThen_ok, hrun L w hR]
  exact ⟨rfl, hR⟩) ha h
end
section
open Go.RowKit Go.ChangeShapes
theorem cells_numR : Tryz.prog.cellsOf 24 = 4 := by kernel_rfl
theorem xJz {W : World} {a : Addr} {v : Value} (hc0 : W.cell? (a.add 0) = some v) : ∃ bb off, a = ⟨bb, off, none⟩ ∧ bb < W.heap.size := by
 obtain ⟨bb, off, sp⟩ := a
 have hblk : bb < W.heap.size := by
  unfold World.cell? at hc0
  split at hc0
  ·rename_i hh
   have hb := (Array.getElem?_eq_some_iff.1 hh).1
   have : ((⟨bb, off, sp⟩ : Addr).add 0).block = bb := by unfold Addr.add; split <;> rfl
   rw [this] at hb
   exact hb
  ·cases hc0
 have hsp : sp = none := by
  cases sp with
  | none => rfl
  | some s =>
   have hs : ((⟨bb, off, some s⟩ : Addr).add 0).spot.isSome = true := by unfold Addr.add; split <;> simp_all
   unfold World.cell? at hc0
   split at hc0
   ·rw [if_pos hs] at hc0; cases hc0
   ·cases hc0
 subst hsp
 exact ⟨bb, off, rfl, hblk⟩
theorem xIz (bb off j : Nat) : ((⟨bb, off, none⟩ : Addr).add j) = ⟨bb, off + j, none⟩ := by
 unfold Addr.add; split <;> simp_all
end
end Go.Proofs.YtaaahfjpnggkbaaGreatDoor
