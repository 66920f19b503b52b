import Derived.ArgAppend
import Derived.Test.YtaaahfjpnggkbaaGreatDoorHO
import Derived.Test.YtaaahfjpnggkbaaGreatDoorHA
import Derived.Maps.AppendAt
import Derived.Laws.MakeOwn
import Derived.Test.YtaaahfjpnggkbaaGreatDoorHP
import Derived.Test.YtaaahfjpnggkbaaGreatDoorHF2
import Derived.Test.YtaaahfjpnggkbaaGreatDoorHM
set_option linter.unusedSimpArgs false
set_option linter.unusedVariables false
set_option maxRecDepth 100000
set_option maxHeartbeats 20000000
namespace Go.Proofs.YtaaahfjpnggkbaaGreatDoor
open Go.RowKit
section
section
variable {P : Program} {ops : Array Oper} {B0 : Nat} {w0 : World} {tl : List Nat} {Kp : List (Nat × Obj)} {Q : Exit → Act → World → Prop} {L L' : List (Nat × Obj)}
theorem cut_code {c : Code} {l : List Value} {d : List Deferred} {w : World} (R : List Value → List Value → World → Prop)
  (h1 : ∀ Q' : Act → World → Prop, Held (∀ tm w', R l tm w' → Q' ⟨tm.toArray, d⟩ w') → c.wp P (Exit.then Q' fun _ _ _ => False) ⟨l.toArray, d⟩ w)
  (h2 : ∀ tm w', R l tm w' → Q .normal ⟨tm.toArray, d⟩ w') : c.wp P Q ⟨l.toArray, d⟩ w := by
 refine Code.wp_mono (fun e a w' h => ?_) (h1 (fun a w' => Q .normal a w') ⟨h2⟩)
 cases e <;> first | exact h | exact h.elim
theorem wp_region_ordC {id : Nat} {w : World} {l : List Oper} {a : Act} (C : World → Prop) (hC : C w.drew) (ts : List Nat) (hm : P.follows .mixedOrders = true) (hB : ordOK l.toArray (xBi 0 ts) (xCt 0 ts) = true) (hlen : ts.length = l.length) (hlen2 : (xBi 0 ts).length + (xCt 0 ts).length = l.length)
  (h : ∀ K : List Oper → Act → Prop, (∀ tl a', xFe P l.toArray (fun _ => True) Q tl C a' → K tl a') → xBn P l.toArray (fun _ => True) C K ts l [] a) : (Code.region id l.toArray true).wp P Q a w := by
 have h := h _ (fun _ _ h => h)
 refine wp_region_any hm ?_
 have hlt : ∀ t ∈ xCt 0 ts, t < l.toArray.size := fun t ht => by
  simp only [ordOK, Bool.and_eq_true] at hB
  have := List.all_eq_true.1 hB.2 t ht
  simp only [Bool.and_eq_true, decide_eq_true_eq] at this
  exact this.1
 have := wpAny_ord (w := w.drew) (Q := Q) (xBi 0 ts) (xCt 0 ts) hB hC trivial (xCu (K := tailW P l.toArray (fun _ => True) Q (xCt 0 ts) C) ts l [] 0 a hlen (fun j => by simp) (fun a' ha' => xGc _ _ a' hlt (by simpa using ha')) h)
 rw [hlen2] at this
 simpa using this
section
variable {ts : List Nat} {r acc : List Oper} {o : Oper} {a : Act} {K : List Oper → Act → Prop} {I : (World → Prop) → Prop} {C C' : World → Prop}
theorem hd_loadC (hw : Region.wanted o (yielded ops a.tmps) = true) {ty : TypeId} {x : Operand} (hop : o.op = .load ty x) {ad : Addr} (hx : a.eval x = .pointer (some ad)) {v : Value} (hq : ∀ w, C w → (loadVar ty ad).run P w = .ok v w)
  {a' : Act} (ha : a.put o.dst v = a') (h : xBn P ops I C K ts r acc a') : xBn P ops I C K (0 :: ts) (o :: r) acc a :=
 xHk hw (fun w hR => by
  unfold execOp
  simp only [hop, hx, Instr.loadAt, Instr.sureAddr, Sem.run_bind, Sem.run_pure, Result.andThen_ok, hq w hR]
  exact ⟨rfl, hR⟩) ha h
theorem tl_stepC (hw : Region.wanted o (yielded ops a.tmps) = true) {v : Value} (hq : ∀ w, C w → uponTo P C' v ((execOp a.eval o).run P w)) {a' : Act} (ha : a.put o.dst v = a') (h : xFe P ops (fun _ => True) Q r C' a') : xFe P ops (fun _ => True) Q (o :: r) C a :=
 ⟨v, C', .inl ⟨hw, hq⟩, trivial, by rw [ha]; exact h⟩
theorem tl_storeC (C' : World → Prop) (hw : Region.wanted o (yielded ops a.tmps) = true) {ty : TypeId} {x y : Operand} (hop : o.op = .store ty x y) {ad : Addr} (hx : a.eval x = .pointer (some ad)) {v : Value} (hy : a.eval y = v) (hq : ∀ w, C w → ∃ w', (storeVar ty ad v).run P w = .ok () w' ∧ C' w')
  {a' : Act} (ha : a.put o.dst undef = a') (h : xFe P ops (fun _ => True) Q r C' a') : xFe P ops (fun _ => True) Q (o :: r) C a :=
 tl_stepC hw (fun w hR => by
  obtain ⟨w', e, hR'⟩ := hq w hR
  unfold execOp
  simp only [hop, hx, hy, Instr.storeAt, Instr.sureAddr, Sem.run_bind, Sem.run_pure, Result.andThen_ok, e]
  exact ⟨rfl, hR'⟩) ha h
end
section
variable {o : Oper} {a : Act}
theorem xCd {o : Oper} (hg : o.guard = none) (y : Nat → Option Bool) : Region.wanted o y = true := by simp [Region.wanted, hg]
theorem xIp {ty : TypeId} {l : List Value} [hz : xKf P ty l] (hg : o.guard = none) (hop : o.op = .alloc ty) : IsNew P o a (.cells l.toArray ty) (fun b => .pointer (some ⟨b, 0, none⟩)) :=
 ⟨hg, fun w => by
  obtain ⟨z, h1, h2⟩ := hz.is
  have hzv : (zeroValue ty).run P w = .ok z w := by
   cases hq : P.info? ty with
   | none => simp [hq] at h1
   | some i =>
    have : i.zero = some z := by simpa [hq] using h1
    simp [zeroValue, typeInfo, hq, this]
  have e : (Instr.alloc ty true (.tuple #[])).run P w = .ok (.pointer (some ⟨w.heap.size, 0, none⟩)) (w.alloc (.cells l.toArray ty)) := by
   simp only [Instr.alloc, Sem.run_bind, hzv, Result.andThen_ok, newVar, newRow, h2, newObj]
   rfl
  unfold execOp
  simp only [hop, Sem.run_bind, e, Result.andThen_ok, Sem.run_pure]⟩
theorem xEo (hg : o.guard = none) {f : FuncId} {xs : List Operand} {us : Array TypeId} (hop : o.op = .call { callee := .value (.func f), args := xs.toArray, argTypes := us }) {vs : List Value} {v : Value} (hx' : evL a xs = some vs)
  (hent : ∀ w, (callFunc f vs.toArray).run P w = .ok (.enter f vs.toArray) w) (hq : ∀ w, Rep B0 w0 L w → Calls P f vs.toArray w fun e w' => e = .returned v ∧ Rep B0 w0 L' w') : xBa P ops o v a (Rep B0 w0 L) (Rep B0 w0 L') :=
 .inl ⟨xCd hg _, fun w hR => by
  have e : (execOp a.eval o).run P w = .ok (.enter f vs.toArray) w := by
   have hx := xCy hx'
   unfold execOp
   simp only [hop, resolve, Deferred.ofValue, Act.eval, Sem.run_bind, Sem.run_pure, Result.andThen_ok, hx]
   have := hent w
   simpa [invoke] using this
  rw [e]
  exact (hq w hR).mono fun e' w' ⟨he, hb⟩ => ⟨he, hb⟩⟩
theorem xEh (hg : o.guard = none) {ty : TypeId} {x y : Operand} (hop : o.op = .store ty x y) {n : Nat} {b : Nat} (hx : ev a x = some (.pointer (some ⟨b, 0, none⟩))) (hT : RowT P ty n) {l vs : List Value} {t : TypeId}
  (hy : ev a y = some (.agg vs.toArray)) (h1 : vs.all (·.oneCell') = true) (hvn : vs.length = n) (hn : l.length = n) (hs : xBq L b (.cells l.toArray t) (.cells vs.toArray t) L') : xBa P ops o undef a (Rep B0 w0 L) (Rep B0 w0 L') :=
 .inl ⟨xCd hg _, fun w hR => by
  have hx := xAw hx
  have hy := xAw hy
  obtain ⟨w', e, hR'⟩ := hR.storeRow (P := P) (ty := ty) (off := 0) h1 hvn hs (by omega) (by simp [← hn])
  unfold execOp
  simp only [hop, hx, hy, Instr.storeAt, Instr.sureAddr, Sem.run_bind, Sem.run_pure, Result.andThen_ok, e]
  exact ⟨rfl, hR'⟩⟩
end
end
end
section
section
variable {P : Program} {ops : Array Oper} {B0 : Nat} {w0 : World} {Kp : List (Nat × Obj)} {Q : Exit → Act → World → Prop} {L L' : List (Nat × Obj)}
def uponF (P : Program) (R : Value → World → Prop) : Result Next → Prop
 | .ok (.value u) w' => R u w'
 | .ok .skip w' => R undef w'
 | .ok (.enter f args) w' => Calls P f args w' fun e w'' => ∃ v, e = .returned v ∧ R v w''
 | _ => False
def StepF (P : Program) (ops : Array Oper) (o : Oper) (a : Act) (C : World → Prop) (R : Value → World → Prop) : Prop :=
 (Region.wanted o (yielded ops a.tmps) = true ∧ ∀ w, C w → uponF P R ((execOp a.eval o).run P w)) ∨ (Region.wanted o (yielded ops a.tmps) = false ∧ ∀ w, C w → R undef w)
theorem StepF.wpOp {i : Nat} {o : Oper} {a : Act} {C : World → Prop} {R : Value → World → Prop} {K : Act → World → Prop} {w : World} (hi : ops[i]? = some o) (hy : StepF P ops o a C R) (hw : C w) (h : ∀ v w', R v w' → K (a.put o.dst v) w') : wpOp P ops Q i K a w := by
 unfold Go.wpOp
 simp only [hi]
 rcases hy with ⟨h1, h2⟩ | ⟨h1, h2⟩
 ·rw [if_pos h1]
  refine .inl ?_
  have h3 := h2 w hw
  unfold Oper.wp
  generalize (execOp a.eval o).run P w = r at *
  cases r with
  | ok n w' =>
   cases n <;> simp only [uponF] at h3 <;> simp only [Oper.upon]
   case value u => exact h _ _ h3
   case skip => exact h _ _ h3
   case enter f args => exact h3.mono fun e w'' ⟨v, he, hc⟩ => by subst he; exact h _ _ hc
  | halt x w' => exact h3.elim
 ·rw [if_neg (by rw [h1]; exact Bool.false_ne_true)]
  exact h _ _ (h2 w hw)
theorem StepF.of_put {o : Oper} {u : Value} {a : Act} {d : Option Tmp} {C : World → Prop} {R : Value → World → Prop} (hs : ∀ cs b, o.op ≠ .select cs b) (hd : ∀ t, d = some t → t ∉ o.looksAt ops) : StepF P ops o (a.put d u) C R ↔ StepF P ops o a C R := by
 unfold StepF
 rw [wanted_put o a d u hd, execOp_put o hs a d u hd]
def outW (B0 : Nat) (w0 : World) (R : Value → List (Nat × Obj) → Prop) (v : Value) (w : World) : Prop := ∃ L, R v L ∧ Rep B0 w0 L w
def xDv (P : Program) (ops : Array Oper) (B0 : Nat) (w0 : World) (Kp : List (Nat × Obj)) (Q : Exit → Act → World → Prop) : Nat → Array Bool → Act → List (Nat × Obj) → Prop
  | 0, listed, a, L => Region.ready .any ops listed = [] ∧ ∀ w, Rep B0 w0 L w → Q .normal a w
  | f + 1, listed, a, L => (Region.ready .any ops listed = [] → ∀ w, Rep B0 w0 L w → Q .normal a w) ∧ ∀ i ∈ Region.ready .any ops listed, ∃ o, ops[i]? = some o ∧
      ∃ R, StepF P ops o a (Rep B0 w0 L) (outW B0 w0 R) ∧ ∀ v L', R v L' → (∀ p, p ∈ Kp → p ∈ L') ∧ xDv P ops B0 w0 Kp Q f (listed.setIfInBounds i true) (a.put o.dst v) L'
theorem wpAny_of_F : ∀ (f : Nat) (listed : Array Bool) (a : Act) (L : List (Nat × Obj)) (w : World), Rep B0 w0 L w → xDv P ops B0 w0 Kp Q f listed a L → wpAny P .any ops Q f listed a w
  | 0, _, _, _, w, hw, h => ⟨h.1, h.2 w hw⟩
  | f + 1, listed, a, L, w, hw, h => ⟨fun h0 => h.1 h0 w hw, fun i hi => by
      obtain ⟨o, ho, R, hy, hn⟩ := h.2 i hi
      exact hy.wpOp ho hw fun v w' ⟨L', hR, hw'⟩ => wpAny_of_F f _ _ _ w' hw' (hn v L' hR).2⟩
theorem xJr {Kp' : List (Nat × Obj)} (hK : ∀ p, p ∈ Kp → p ∈ Kp') : ∀ (f : Nat) (listed : Array Bool) (a : Act) (L : List (Nat × Obj)), xDv P ops B0 w0 Kp' Q f listed a L → xDv P ops B0 w0 Kp Q f listed a L
  | 0, _, _, _, h => h
  | f + 1, listed, a, L, h => ⟨h.1, fun i hi => by
      obtain ⟨o, ho, R, hy, hn⟩ := h.2 i hi
      exact ⟨o, ho, R, hy, fun v L' hR => ⟨fun p hp => (hn v L' hR).1 p (hK p hp), xJr hK f _ _ _ (hn v L' hR).2⟩⟩⟩
theorem xBa.stepF {o : Oper} {v : Value} {a : Act} (hy : xBa P ops o v a (Rep B0 w0 L) (Rep B0 w0 L')) : StepF P ops o a (Rep B0 w0 L) (outW B0 w0 fun u M => u = v ∧ M = L') := by
 rcases hy with ⟨h1, h2⟩ | ⟨h1, rfl, h2⟩
 ·refine .inl ⟨h1, fun w hw => ?_⟩
  have h3 := h2 w hw
  generalize (execOp a.eval o).run P w = r at *
  cases r with
  | ok n w' =>
   cases n <;> simp only [uponTo] at h3 <;> simp only [uponF]
   case value u => exact ⟨L', ⟨h3.1, rfl⟩, h3.2⟩
   case skip => exact ⟨L', ⟨h3.1.symm, rfl⟩, h3.2⟩
   case enter f args => exact h3.mono fun e w'' ⟨he, hc⟩ => ⟨v, he, L', ⟨rfl, rfl⟩, hc⟩
  | halt x w' => exact h3.elim
 ·exact .inr ⟨h1, fun w hw => ⟨L', ⟨rfl, rfl⟩, h2 w hw⟩⟩
theorem IsNew.stepF {o : Oper} {a : Act} {ob : Obj} {mk : Nat → Value} (hn : IsNew P o a ob mk) : StepF P ops o a (Rep B0 w0 L) (outW B0 w0 fun v M => ∃ b, v = mk b ∧ M = (b, ob) :: L) :=
 .inl ⟨by simp [Region.wanted, hn.guard], fun w hw => by
  rw [hn.run]
  exact ⟨_, ⟨_, rfl, rfl⟩, hw.alloc ob⟩⟩
theorem headF_first {i : Nat} {oi : Oper} {v : Value} (hi : ops[i]? = some oi) (hs : ∀ (j : Nat) (o : Oper) cs b, ops[j]? = some o → o.op ≠ .select cs b) : ∀ (fuel : Nat) (listed : Array Bool) (a : Act) (L : List (Nat × Obj)),
   (∀ j oj, ops[j]? = some oj → j ≠ i → listed.getD j true = false → (∀ e ∈ oj.after, Region.binds .any e = true → e.on ≠ i) → oi.apart ops oj = true) →
   i ∈ Region.ready .any ops listed → (∀ L', (∀ p, p ∈ Kp → p ∈ L') → xBa P ops oi v a (Rep B0 w0 L') (Rep B0 w0 L')) → (∀ p, p ∈ Kp → p ∈ L) →
   xDv P ops B0 w0 Kp Q fuel (listed.setIfInBounds i true) (a.put oi.dst v) L → xDv P ops B0 w0 Kp Q (fuel + 1) listed a L := by
 intro fuel
 induction fuel with
 | zero =>
  intro listed a L _ hr hy hL H
  refine ⟨fun h0 => (by rw [h0] at hr; cases hr), fun j hj => ?_⟩
  by_cases hji : j = i
  ·subst hji
   exact ⟨oi, hi, _, (hy L hL).stepF, fun u M ⟨hu, hM⟩ => by subst hu hM; exact ⟨hL, H⟩⟩
  ·have := ready_mono hj hji
   rw [H.1] at this
   cases this
 | succ fuel ih =>
  intro listed a L hfree hr hy hL H
  refine ⟨fun h0 => (by rw [h0] at hr; cases hr), fun j hj => ?_⟩
  by_cases hji : j = i
  ·subst hji
   exact ⟨oi, hi, _, (hy L hL).stepF, fun u M ⟨hu, hM⟩ => by subst hu hM; exact ⟨hL, H⟩⟩
  ·obtain ⟨oj, hoj, R, hst, hH⟩ := H.2 j (ready_mono hj hji)
   obtain ⟨hjun, oj', hoj', hall⟩ := mem_ready.1 hj
   obtain rfl : oj = oj' := Option.some.inj (hoj.symm.trans hoj')
   have hnot : ∀ e ∈ oj.after, Region.binds .any e = true → e.on ≠ i := fun e he hb heq => by
    have h1 := hall e he hb
    have h0 := (mem_ready.1 hr).1
    rw [heq] at h1
    rcases Nat.lt_or_ge i listed.size with h' | h'
    ·simp [h'] at h0 h1; rw [h0] at h1; cases h1
    ·simp [Array.getElem?_eq_none h'] at h1
   obtain ⟨p1, p2, p3⟩ := Oper.apart_spec (hfree j oj hoj hji hjun hnot)
   refine ⟨oj, hoj, R, (StepF.of_put (fun cs b => hs j oj cs b hoj) p1).1 hst, fun u L' hR => ⟨(hH u L' hR).1, ?_⟩⟩
   refine ih (listed.setIfInBounds j true) (a.put oj.dst u) L' (fun k ok hk hki hun hno => ?_) (ready_mono hr (Ne.symm hji)) (fun L'' hL'' => (xBa.of_put (fun cs b => hs i oi cs b hi) p3).2 (hy L'' hL'')) (hH u L' hR).1 ?_
   ·refine hfree k ok hk hki ?_ hno
    by_cases hjk : j = k
    ·subst hjk; exact hjun
    ·rw [getD_set_ne true hjk] at hun; exact hun
   ·rw [Array.setIfInBounds_comm _ _ hji, ← Act.put_comm a v u p2]
    exact (hH u L' hR).2
def headsOKF (ops : Array Oper) (ord : List (Nat × Bool)) (listed : Array Bool) : Bool := Region.noSelect ops && ordB ops (ord.map (·.1)) listed && ord.all fun i => i.2
theorem heads_allF {L : List (Nat × Obj)} (hs : ∀ (j : Nat) (o : Oper) cs b, ops[j]? = some o → o.op ≠ .select cs b) (hL : ∀ p, p ∈ Kp → p ∈ L) {K : Act → Prop} {n : Nat} : ∀ (ord : List (Nat × Bool)) (listed : Array Bool) (a : Act), ordB ops (ord.map (·.1)) listed = true → (ord.all fun i => i.2) = true →
    headW P ops (xDa B0 w0 Kp) (Rep B0 w0 L) K ord a → (∀ a', K a' → xDv P ops B0 w0 Kp Q n (xCp (ord.map (·.1)) listed) a' L) → xDv P ops B0 w0 Kp Q (ord.length + n) listed a L
  | [], listed, a, _, _, h, hn => by rw [List.length_nil, Nat.zero_add]; exact hn a h
  | (i, b) :: r, listed, a, hB, hT, h, hn => by
    simp only [List.map_cons, ordB, Bool.and_eq_true] at hB
    obtain ⟨⟨hr, hfr⟩, hB'⟩ := hB
    simp only [List.all_cons, Bool.and_eq_true] at hT
    obtain ⟨rfl, hT'⟩ := hT
    obtain ⟨o, v, ho, hy, _, hK⟩ := h
    have hr' : i ∈ Region.ready .any ops listed := by simpa using hr
    rw [List.length_cons, show r.length + 1 + n = (r.length + n) + 1 by omega]
    exact headF_first ho hs (r.length + n) listed a L (Region.free_spec ho hfr) hr' (fun L' hL' => hy rfl _ ⟨L', rfl, hL'⟩) hL
      (heads_allF hs hL r _ _ hB' hT' hK hn)
theorem xCo (Kp' : List (Nat × Obj)) {l : List Oper} {L : List (Nat × Obj)} {listed : Array Bool} {a : Act} (ts : List Nat) (n : Nat) {f : Nat} (hf : f = (xBi 0 ts).length + n) (hK : ∀ p, p ∈ Kp → p ∈ Kp') (hL : ∀ p, p ∈ Kp' → p ∈ L) (hlen : ts.length = l.length) (hB : headsOKF l.toArray (xBi 0 ts) listed = true)
  (h : ∀ K : List Oper → Act → Prop, (∀ acc a', xDv P l.toArray B0 w0 Kp' Q n (xCp ((xBi 0 ts).map (·.1)) listed) a' L → K acc a') → xBn P l.toArray (xDa B0 w0 Kp') (Rep B0 w0 L) K ts l [] a) : xDv P l.toArray B0 w0 Kp Q f listed a L := by
 subst hf
 simp only [headsOKF, Bool.and_eq_true] at hB
 obtain ⟨⟨h1, h2⟩, h3⟩ := hB
 have hW := xCu (P := P) (ops := l.toArray) (I := xDa B0 w0 Kp') (C := Rep B0 w0 L) (K := fun a' => xDv P l.toArray B0 w0 Kp' Q n (xCp ((xBi 0 ts).map (·.1)) listed) a' L) ts l [] 0 a hlen (fun j => by simp) (fun a' ha' => ha') (h (fun _ a' => xDv P l.toArray B0 w0 Kp' Q n (xCp ((xBi 0 ts).map (·.1)) listed) a' L) (fun _ _ h => h))
 exact xJr hK _ _ _ _ (heads_allF (Region.noSelect_spec h1) hL (xBi 0 ts) listed a h2 h3 hW (fun _ h => h))
theorem xBl {id : Nat} {w : World} {l : List Oper} {L : List (Nat × Obj)} {a : Act} (hR : Rep B0 w0 L w) (n : Nat) (hm : P.follows .mixedOrders = true) (hn : l.length = n)
  (h : xDv P l.toArray B0 w0 [] Q n (Array.replicate n false) a L) : (Code.region id l.toArray true).wp P Q a w := by
 subst hn
 refine wp_region_any hm ?_
 have := wpAny_of_F _ _ _ _ _ hR.drew h
 simpa using this
def xEm (P : Program) (ops : Array Oper) (B0 : Nat) (w0 : World) (Kp : List (Nat × Obj)) (Q : Exit → Act → World → Prop) (n : Nat) (listed : Array Bool) (a : Act) (L : List (Nat × Obj)) : List Nat → Prop
 | [] => True
 | i :: r => (∃ o, ops[i]? = some o ∧ ∃ R, StepF P ops o a (Rep B0 w0 L) (outW B0 w0 R) ∧ ∀ v L', R v L' → (∀ p, p ∈ Kp → p ∈ L') ∧ xDv P ops B0 w0 Kp Q n (listed.setIfInBounds i true) (a.put o.dst v) L') ∧ xEm P ops B0 w0 Kp Q n listed a L r
theorem stepsF_all {n : Nat} {listed : Array Bool} {a : Act} : ∀ {is : List Nat}, xEm P ops B0 w0 Kp Q n listed a L is → ∀ i ∈ is, ∃ o, ops[i]? = some o ∧ ∃ R, StepF P ops o a (Rep B0 w0 L) (outW B0 w0 R) ∧ ∀ v L', R v L' → (∀ p, p ∈ Kp → p ∈ L') ∧ xDv P ops B0 w0 Kp Q n (listed.setIfInBounds i true) (a.put o.dst v) L'
  | [], _, i, hi => nomatch hi
  | _ :: _, h, i, hi => by
    rcases List.mem_cons.1 hi with rfl | hi
    · exact h.1
    · exact stepsF_all h.2 i hi
theorem f_at {n : Nat} {listed : Array Bool} {a : Act} (is : List Nat) (hr : decide (Region.ready .any ops listed = is) = true) (hne : is.isEmpty = false) (h : xEm P ops B0 w0 Kp Q n listed a L is) : xDv P ops B0 w0 Kp Q (n + 1) listed a L := by
 have hr := oD hr
 refine ⟨fun h0 => (by rw [h0] at hr; subst hr; cases hne), fun k hk => ?_⟩
 rw [hr] at hk
 exact stepsF_all h k hk
theorem xCl {n : Nat} {listed : Array Bool} {a : Act} : xEm P ops B0 w0 Kp Q n listed a L [] := trivial
theorem f_is (i : Nat) {n : Nat} {listed : Array Bool} {a : Act} {r : List Nat} (h : xEm P ops B0 w0 Kp Q n listed a L (i :: r)) : xEm P ops B0 w0 Kp Q n listed a L (i :: r) := h
theorem f_new {n : Nat} {listed : Array Bool} {a : Act} {i : Nat} {r : List Nat} {oi : Oper} {di : Tmp} {ob : Obj} {mk : Nat → Value} (hoi : ops[i]? = some oi) (hdi : oi.dst = some di) (hai : IsNew P oi a ob mk) (hk : ∀ p, p ∈ Kp → p ∈ L) (h : ∀ b, xDv P ops B0 w0 Kp Q n (listed.setIfInBounds i true) (a.put (some di) (mk b)) ((b, ob) :: L))
  (hr : xEm P ops B0 w0 Kp Q n listed a L r) : xEm P ops B0 w0 Kp Q n listed a L (i :: r) := by
 rw [← hdi] at h
 exact ⟨⟨oi, hoi, _, hai.stepF, fun v M ⟨b, hv, hM⟩ => by subst hv hM; exact ⟨fun p hp => .tail _ (hk p hp), h b⟩⟩, hr⟩
theorem f_y {n : Nat} {listed : Array Bool} {a : Act} {i : Nat} {r : List Nat} {oi : Oper} {di : Tmp} {v : Value} (hoi : ops[i]? = some oi) (hdi : oi.dst = some di) (hy : xBa P ops oi v a (Rep B0 w0 L) (Rep B0 w0 L')) (hk : ∀ p, p ∈ Kp → p ∈ L')
  (h : xDv P ops B0 w0 Kp Q n (listed.setIfInBounds i true) (a.put (some di) v) L') (hr : xEm P ops B0 w0 Kp Q n listed a L r) : xEm P ops B0 w0 Kp Q n listed a L (i :: r) := by
 rw [← hdi] at h
 exact ⟨⟨oi, hoi, _, hy.stepF, fun u M ⟨hu, hM⟩ => by subst hu hM; exact ⟨hk, h⟩⟩, hr⟩
theorem f_s {n : Nat} {listed : Array Bool} {a : Act} {i : Nat} {r : List Nat} {oi : Oper} {v : Value} (hoi : ops[i]? = some oi) (hdi : oi.dst = none) (hy : xBa P ops oi v a (Rep B0 w0 L) (Rep B0 w0 L')) (hk : ∀ p, p ∈ Kp → p ∈ L')
  (h : xDv P ops B0 w0 Kp Q n (listed.setIfInBounds i true) a L') (hr : xEm P ops B0 w0 Kp Q n listed a L r) : xEm P ops B0 w0 Kp Q n listed a L (i :: r) := by
 refine ⟨⟨oi, hoi, _, hy.stepF, fun u M ⟨hu, hM⟩ => ?_⟩, hr⟩
 subst hu hM
 rw [hdi]
 exact ⟨hk, h⟩
theorem f_call {n : Nat} {listed : Array Bool} {a : Act} {i : Nat} {r : List Nat} {oi : Oper} {di : Tmp} (R : Value → List (Nat × Obj) → Prop) (hoi : ops[i]? = some oi) (hdi : oi.dst = some di) (hg : oi.guard = none) {f : FuncId} {xs : List Operand} {us : Array TypeId} (hop : oi.op = .call { callee := .value (.func f), args := xs.toArray, argTypes := us }) {vs : List Value} (hx' : evL a xs = some vs)
  (hent : ∀ w, (callFunc f vs.toArray).run P w = .ok (.enter f vs.toArray) w) (hq : ∀ w, Rep B0 w0 L w → Calls P f vs.toArray w fun e w' => ∃ v, e = .returned v ∧ outW B0 w0 R v w')
  (h : ∀ v M, R v M → (∀ p, p ∈ Kp → p ∈ M) ∧ xDv P ops B0 w0 Kp Q n (listed.setIfInBounds i true) (a.put (some di) v) M) (hr : xEm P ops B0 w0 Kp Q n listed a L r) : xEm P ops B0 w0 Kp Q n listed a L (i :: r) := by
 rw [← hdi] at h
 refine ⟨⟨oi, hoi, R, .inl ⟨by simp [Region.wanted, hg], fun w hw => ?_⟩, h⟩, hr⟩
 have e : (execOp a.eval oi).run P w = .ok (.enter f vs.toArray) w := by
  have hx := xCy hx'
  unfold execOp
  simp only [hop, resolve, Deferred.ofValue, Act.eval, Sem.run_bind, Sem.run_pure, Result.andThen_ok, hx]
  have := hent w
  simpa [invoke] using this
 rw [e]
 exact hq w hw
theorem f_end {listed : Array Bool} {a : Act} (hr : decide (Region.ready .any ops listed = []) = true) (h : ∀ w, Rep B0 w0 L w → Q .normal a w) : xDv P ops B0 w0 Kp Q 0 listed a L := ⟨oD hr, h⟩
end
end
section
attribute [local irreducible] Calls
theorem build_77 (w : World) : (Instr.build 24 #[(0, .int .u64 77)]).run Tryz.prog w = .ok (.agg (nl 77).toArray) w := by
 have e : nl 77 = [.int .u64 77, .int .u64 0, .int .u64 0, .int .u64 0] := by
  unfold nl
  simp [xDe]
 have h : (Instr.build 24 #[(0, .int .u64 77)]).run Tryz.prog w = .ok (.agg [Value.int .u64 77, .int .u64 0, .int .u64 0, .int .u64 0].toArray) w := by kernel_rfl
 rw [e]
 exact h
attribute [local irreducible] Instr.build Instr.buildSlice
section
variable {B0 : Nat} {w0 w : World} {L : List (Nat × Obj)}
def TwAt (M : List (Nat × Obj)) : RT → List Value → Prop
  | .leaf, _ => False
  | .node n t k p, l => n < B ∧ t < B ∧ ∃ g cap, ∃ cur : List Value, ∃ V : Nat → List Value, l = rrow n t (.slice (some ⟨g, 0, none⟩) k cap) ∧ k + 1 ≤ cap ∧ cap ≤ maxLen ∧ cur.length = cap * 9 ∧ (g, Obj.cells cur.toArray 145) ∈ M ∧
      (∀ j, j < k → (cur.drop (j * 9)).take 9 = V j) ∧ (cur.drop (k * 9)).take 9 = rrow 77 0 (.slice none 0 0) ∧ ∀ j, j < k → TwAt M (p j) (V j)
theorem TwAt.mono {M M' : List (Nat × Obj)} (hM : ∀ p, p ∈ M → p ∈ M') : ∀ {r : RT} {l : List Value}, TwAt M r l → TwAt M' r l
 | .leaf, _, h => h.elim
 | .node n t k p, l, ⟨h1, h2, g, cap, cur, V, h3, h4, h5, h6, h7, h8, h9, h10⟩ => ⟨h1, h2, g, cap, cur, V, h3, h4, h5, h6, hM _ h7, h8, h9, fun j hj => TwAt.mono hM (h10 j hj)⟩
theorem TwAt.row {M : List (Nat × Obj)} : ∀ {r : RT} {l : List Value}, TwAt M r l → ∃ t a k c, l = rrow r.num t (.slice a k c) ∧ r.num < B ∧ t < B
 | .leaf, _, h => h.elim
 | .node n t k p, l, ⟨h1, h2, g, cap, cur, V, h3, _⟩ => ⟨t, _, k, cap, h3, h1, h2⟩
end
end
section
attribute [local irreducible] Calls Instr.build Instr.buildSlice
theorem xCk {P : Program} {ops : Array Oper} {rest : List Oper} {o : Oper} {a : Act} {w : World} {Q : Exit → Act → World → Prop} (hg : o.guard = none) {t : TypeId} {x : Operand} (hop : o.op = .build t #[(0, x)]) {vx v : Value} (hx : ev a x = some vx)
  (hrun : ∀ w, (Instr.build t #[(0, vx)]).run P w = .ok v w) (h : wpList P ops Q rest (a.put o.dst v) w) : wpList P ops Q (o :: rest) a w :=
 wpList_plain hg fun _ hK => by
  have hx := xAw hx
  unfold Oper.wp execOp
  simp only [hop, List.map_toArray, List.map_cons, List.map_nil, hx, hrun, Sem.run_bind, Result.andThen_ok, Sem.run_pure]
  exact hK _ _ h
theorem Rep.permT {B0 : Nat} {w0 w : World} {L L' : List (Nat × Obj)} (h : Rep B0 w0 L w) (hp : L.Perm L') : Rep B0 w0 L' w :=
 ⟨h.below, h.le, fun p hp' => h.own p (hp.mem_iff.2 hp'), (hp.map _).nodup_iff.1 h.uniq⟩
end
section
section
variable {B0 : Nat} {w0 w : World} {L : List (Nat × Obj)}
theorem cell_load {ty : TypeId} [hT : xDp Tryz.prog ty] {ad : Addr} {v : Value} {w : World} (h : w.cell? ad = some v) : (loadVar ty ad).run Tryz.prog w = .ok v w := by
 obtain ⟨d, hu, hd, hi⟩ := hT.is
 have hagg : (isAgg ty).run Tryz.prog w = .ok false w := by
  unfold isAgg
  rw [Sem.run_bind, run_underlying hu w]
  cases d <;> simp_all
 have hl : (load ad).run Tryz.prog w = .ok v w := by
  simp only [load, Sem.run, h]
 unfold loadVar
 rw [Sem.run_bind, hagg]
 simp only [Result.andThen_ok, Bool.false_eq_true, if_false]
 exact hl
theorem xAn {ops : Array Oper} {ts : List Nat} {r acc : List Oper} {o : Oper} {a : Act} {K : List Oper → Act → Prop} {I : (World → Prop) → Prop} (hw : Region.wanted o (yielded ops a.tmps) = true) {ty : TypeId} {x : Operand} (hop : o.op = .load ty x) {ad : Addr} (hx : a.eval x = .pointer (some ad)) {v : Value}
  (hrun : ∀ w, Rep B0 w0 L w → (loadVar ty ad).run Tryz.prog w = .ok v w) {a' : Act} (ha : a.put o.dst v = a') (h : xBn Tryz.prog ops I (Rep B0 w0 L) K ts r acc a') : xBn Tryz.prog ops I (Rep B0 w0 L) K (0 :: ts) (o :: r) acc a :=
 xHk hw (fun w hR => by
  unfold execOp
  simp only [hop, hx, Instr.loadAt, Instr.sureAddr, Sem.run_bind, Sem.run_pure, Result.andThen_ok, hrun w hR]
  exact ⟨rfl, hR⟩) ha h
end
end
section
section
variable {P : Program} {ops : Array Oper} {ts : List Nat} {r acc : List Oper} {o : Oper} {a a' : Act} {K : List Oper → Act → Prop} {I : (World → Prop) → Prop} {C : World → Prop} {m : Nat}
theorem hd_len (hm : m ≠ 2) (hw : Region.wanted o (yielded ops a.tmps) = true) {x : Operand} {us : Array TypeId} (hop : o.op = .call { callee := .builtin .len, args := #[x], argTypes := us }) {u v : Value} (hx : ev a x = some u) (hq : ∀ w, (Builtin.len_ us o.type #[u]).run P w = .ok v w)
  (ha : a.put o.dst v = a') (h : xBn P ops I C K ts r acc a') : xBn P ops I C K (m :: ts) (o :: r) acc a :=
 xDc hm hw (fun w => by
  have hx := xAw hx
  generalize a.eval = E at *
  unfold execOp
  simp only [hop]
  go_simp) ha h
end
end
end Go.Proofs.YtaaahfjpnggkbaaGreatDoor
