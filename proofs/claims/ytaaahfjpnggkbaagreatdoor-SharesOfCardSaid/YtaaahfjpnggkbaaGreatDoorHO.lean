import Derived.Test.YtaaahfjpnggkbaaGreatDoorHN
import Derived.Test.YtaaahfjpnggkbaaGreatDoorHA
import Derived.Test.YtaaahfjpnggkbaaGreatDoorHF2
import Derived.Maps.AppendAt
import Derived.Laws.MakeOwn
import Derived.Test.YtaaahfjpnggkbaaGreatDoorHWide
set_option linter.unusedSimpArgs false
set_option linter.unusedVariables false
set_option maxRecDepth 100000
set_option maxHeartbeats 20000000
namespace Go.Proofs.YtaaahfjpnggkbaaGreatDoor
open Go.RowKit
section
attribute [local irreducible] Calls
instance rowReason : RowT Tryz.prog 145 9 := .mk' (by kernel_rfl) (by kernel_rfl)
instance cellParts : xDp Tryz.prog 141 := .mk' (by kernel_rfl) (by kernel_rfl)
theorem xBq.new {b : Nat} {o o' : Obj} : ∀ {L L' : List (Nat × Obj)}, xBq L b o o' L' → (b, o') ∈ L'
  | [], _, h => h.elim
  | q :: L, L', h => by
    rcases h with ⟨rfl, rfl⟩ | ⟨L'', h, rfl⟩
    · exact .head _
    · exact .tail _ h.new
instance zeroInt : xKf Tryz.prog 3 [.int .i64 0] := ⟨.int .i64 0, by kernel_rfl, rfl⟩
end
section
section
variable {P : Program} {ops : Array Oper} {B0 : Nat} {w0 : World} {tl : List Nat} {Kp : List (Nat × Obj)} {Q : Exit → Act → World → Prop}
structure IsNew (P : Program) (o : Oper) (a : Act) (ob : Obj) (mk : Nat → Value) : Prop where
 guard : o.guard = none
 run : ∀ (w : World), (execOp a.eval o).run P w = .ok (.value (mk w.heap.size)) (w.alloc ob)
theorem IsNew.of_put {o : Oper} {a : Act} {ob : Obj} {mk : Nat → Value} {u : Value} {dst : Option Tmp} (hs : ∀ cs b, o.op ≠ .select cs b) (h : ∀ d, dst = some d → d ∉ o.looksAt ops) (hn : IsNew P o (a.put dst u) ob mk) : IsNew P o a ob mk :=
 ⟨hn.guard, fun w => by rw [← execOp_put o hs a dst u h]; exact hn.run w⟩
theorem xAu {L : List (Nat × Obj)} : ∀ p, p ∈ ([] : List (Nat × Obj)) → p ∈ L := fun _ h => nomatch h
theorem xAx {x : Nat × Obj} {l L : List (Nat × Obj)} (h : x ∈ L) (hs : ∀ p, p ∈ l → p ∈ L) : ∀ p, p ∈ x :: l → p ∈ L := fun p hp => by
 rcases List.mem_cons.1 hp with rfl | hp
 ·exact h
 ·exact hs p hp
theorem xBz {rest : List Oper} {o : Oper} {a : Act} {w : World} {L : List (Nat × Obj)} (hR : Rep B0 w0 L w) {ob : Obj} {mk : Nat → Value} (hn : IsNew P o a ob mk) (h : ∀ b w', Rep B0 w0 ((b, ob) :: L) w' → wpList P ops Q rest (a.put o.dst (mk b)) w') : wpList P ops Q (o :: rest) a w :=
 wpList_plain hn.guard fun _ hK => by
  unfold Oper.wp
  rw [hn.run]
  exact hK _ _ (h _ _ (hR.alloc _))
theorem hd_callK {ts : List Nat} {r acc : List Oper} {o : Oper} {a : Act} {K : List Oper → Act → Prop} {C : World → Prop} (hw : Region.wanted o (yielded ops a.tmps) = true) {f : FuncId} {xs : List Operand} {us : Array TypeId} (hop : o.op = .call { callee := .value (.func f), args := xs.toArray, argTypes := us }) {vs : List Value} {v : Value} (hx' : evL a xs = some vs)
  (hent : ∀ w, (callFunc f vs.toArray).run P w = .ok (.enter f vs.toArray) w) (hq : ∀ L w, (∀ p, p ∈ Kp → p ∈ L) → Rep B0 w0 L w → Calls P f vs.toArray w fun e w' => e = .returned v ∧ Rep B0 w0 L w')
  {a' : Act} (ha : a.put o.dst v = a') (h : xBn P ops (xDa B0 w0 Kp) C K ts r acc a') : xBn P ops (xDa B0 w0 Kp) C K (1 :: ts) (o :: r) acc a :=
 xJa hw (fun L w hL hR => by
  have e : (execOp a.eval o).run P w = .ok (.enter f vs.toArray) w := by
   have hx := xCy hx'
   unfold execOp
   simp only [hop, resolve, Deferred.ofValue, Act.eval, Sem.run_bind, Sem.run_pure, Result.andThen_ok, hx]
   have := hent w
   simpa [invoke] using this
  rw [e]
  exact (hq L w hL hR).mono fun e w' ⟨he, hb⟩ => ⟨he, hb⟩) ha h
end
end
section
theorem xAv {α : Type} {P : Program} {c : Code} {Q : Exit → Act → World → Prop} {l : List Value} {d : List Deferred} {w w0 : World} {B0 : Nat} (mask : List Bool) (upd : α → List Value → List Value) (L : α → List (Nat × Obj)) (μ : α → Nat) (Ok : α → Prop) (x0 : α)
  (h0 : xGq mask (upd x0 l) l) (hO : Ok x0) (hR : Rep B0 w0 (L x0) w)
  (hs : ∀ x tm w, Ok x → xGq mask (upd x l) tm → Rep B0 w0 (L x) w → ∀ K : Act → World → Prop, Held (∀ y tm' w', Ok y → μ y < μ x → xGq mask (upd y l) tm' → Rep B0 w0 (L y) w' → K ⟨tm'.toArray, d⟩ w') → c.wp P (Exit.then K Q) ⟨tm.toArray, d⟩ w) : (Code.loop c).wp P Q ⟨l.toArray, d⟩ w := by
 have key : ∀ n x, μ x ≤ n → Ok x → ∀ tm w, xGq mask (upd x l) tm → Rep B0 w0 (L x) w → Code.rounds P c Q (n + 1) ⟨tm.toArray, d⟩ w := by
  intro n
  induction n with
  | zero => intro x hx hO tm w h1 h2; exact hs x tm w hO h1 h2 _ ⟨fun y tm' w' _ hy _ _ => by omega⟩
  | succ n ih =>
   intro x hx hO tm w h1 h2
   exact hs x tm w hO h1 h2 _ ⟨fun y tm' w' hO' hy h1' h2' => ih y (by omega) hO' tm' w' h1' h2'⟩
 exact wp_loop_rounds (μ x0 + 1) (key (μ x0) x0 (Nat.le_refl _) hO l w h0 hR)
end
section
attribute [local irreducible] Calls
end
section
section
variable {P : Program} {ops : Array Oper} {rest : List Oper} {o : Oper} {a : Act} {w w0 : World} {Q : Exit → Act → World → Prop} {B0 : Nat} {L : List (Nat × Obj)}
theorem Rep.drop1 {p : Nat × Obj} (h : Rep B0 w0 (p :: L) w) : Rep B0 w0 L w := h.weaken (List.sublist_cons_self _ _)
theorem Rep.apart {p : Nat × Obj} (h : Rep B0 w0 (p :: L) w) : ∀ q, q ∈ L → q.1 ≠ p.1 := fun q hq e => by
 have := h.uniq
 rw [List.map_cons, List.nodup_cons] at this
 exact this.1 (List.mem_map.2 ⟨q, hq, e⟩)
theorem xCv {ty E : TypeId} {x y : Operand} {vx vy : Value} {n c : Nat} {l : List Value} (hR : Rep B0 w0 L w) (hg : o.guard = none) (hop : o.op = .makeSlice ty x y) (hx : ev a x = some vx) (hy : ev a y = some vy)
  (hrun : ∀ w, (Instr.makeSlice ty vx vy).run P w = .ok (.slice (some ⟨w.heap.size, 0, none⟩) n c) (w.alloc (.cells l.toArray E)))
  (h : ∀ b w', Rep B0 w0 ((b, .cells l.toArray E) :: L) w' → wpList P ops Q rest (a.put o.dst (.slice (some ⟨b, 0, none⟩) n c)) w') : wpList P ops Q (o :: rest) a w :=
 wpList_plain hg fun _ hK => by
  have hx := xAw hx
  have hy := xAw hy
  unfold Oper.wp execOp
  simp only [hop, hx, hy, hrun, Sem.run_bind, Result.andThen_ok, Sem.run_pure]
  exact hK _ _ (h _ _ (hR.alloc _))
end
end
section
attribute [local irreducible] Calls
attribute [local irreducible] Instr.build
end
end Go.Proofs.YtaaahfjpnggkbaaGreatDoor
