/- The law of drawn regions for steps whose value hangs on the world: calls that lay blocks of any size. -/
import Derived.Test.YtgfoeongjhkdmaaGreatRK
import Derived.Test.YtgfoeongjhkdmaaGreatRU
import Derived.Test.YtgfoeongjhkdmaaGreatRProd
import Derived.Test.YtgfoeongjhkdmaaGreatRA
import Derived.Test.YtgfoeongjhkdmaaGreatRN
set_option linter.unusedVariables false
set_option linter.unusedSimpArgs false
namespace Go.Proofs.YtgfoeongjhkdmaaGreat
open Go.RowKit
section
variable {P : Program} {ops : Array Oper} {B0 : Nat} {w0 : World} {Kp : List (Nat × Obj)} {Q : Exit → Act → World → Prop} {L L' : List (Nat × Obj)}
def uponF (P : Program) (R : Value → World → Prop) : Result Next → Prop
  | .ok (.value u) w' => R u w'
  | .ok .skip w' => R undef w'
  | .ok (.enter f args) w' => Calls P f args w' fun e w'' => ∃ v, e = .returned v ∧ R v w''
  | _ => False
def StepF (P : Program) (ops : Array Oper) (o : Oper) (a : Act) (C : World → Prop) (R : Value → World → Prop) : Prop :=
  (Region.wanted o (yielded ops a.tmps) = true ∧ ∀ w, C w → uponF P R ((execOp a.eval o).run P w)) ∨ (Region.wanted o (yielded ops a.tmps) = false ∧ ∀ w, C w → R undef w)
theorem StepF.wpOp {i : Nat} {o : Oper} {a : Act} {C : World → Prop} {R : Value → World → Prop} {K : Act → World → Prop} {w : World} (hi : ops[i]? = some o) (hy : StepF P ops o a C R) (hw : C w) (h : ∀ v w', R v w' → K (a.put o.dst v) w') : wpOp P ops Q i K a w := by
  unfold Go.wpOp
  simp only [hi]
  rcases hy with ⟨h1, h2⟩ | ⟨h1, h2⟩
  · rw [if_pos h1]
    refine .inl ?_
    have h3 := h2 w hw
    unfold Oper.wp
    generalize (execOp a.eval o).run P w = r at *
    cases r with
    | ok n w' =>
      cases n <;> simp only [uponF] at h3 <;> simp only [Oper.upon]
      case value u => exact h _ _ h3
      case skip => exact h _ _ h3
      case enter f args => exact h3.mono fun e w'' ⟨v, he, hc⟩ => by subst he; exact h _ _ hc
    | halt x w' => exact h3.elim
  · rw [if_neg (by rw [h1]; exact Bool.false_ne_true)]
    exact h _ _ (h2 w hw)
theorem StepF.of_put {o : Oper} {u : Value} {a : Act} {d : Option Tmp} {C : World → Prop} {R : Value → World → Prop} (hs : ∀ cs b, o.op ≠ .select cs b) (hd : ∀ t, d = some t → t ∉ o.looksAt ops) : StepF P ops o (a.put d u) C R ↔ StepF P ops o a C R := by
  unfold StepF
  rw [wanted_put o a d u hd, execOp_put o hs a d u hd]
def outW (B0 : Nat) (w0 : World) (R : Value → List (Nat × Obj) → Prop) (v : Value) (w : World) : Prop := ∃ L, R v L ∧ Rep B0 w0 L w
def wpAnyF (P : Program) (ops : Array Oper) (B0 : Nat) (w0 : World) (Kp : List (Nat × Obj)) (Q : Exit → Act → World → Prop) : Nat → Array Bool → Act → List (Nat × Obj) → Prop
  | 0, listed, a, L => Region.ready .any ops listed = [] ∧ ∀ w, Rep B0 w0 L w → Q .normal a w
  | f + 1, listed, a, L => (Region.ready .any ops listed = [] → ∀ w, Rep B0 w0 L w → Q .normal a w) ∧ ∀ i ∈ Region.ready .any ops listed, ∃ o, ops[i]? = some o ∧
      ∃ R, StepF P ops o a (Rep B0 w0 L) (outW B0 w0 R) ∧ ∀ v L', R v L' → (∀ p, p ∈ Kp → p ∈ L') ∧ wpAnyF P ops B0 w0 Kp Q f (listed.setIfInBounds i true) (a.put o.dst v) L'
theorem wpAny_of_F : ∀ (f : Nat) (listed : Array Bool) (a : Act) (L : List (Nat × Obj)) (w : World), Rep B0 w0 L w → wpAnyF P ops B0 w0 Kp Q f listed a L → wpAny P .any ops Q f listed a w
  | 0, _, _, _, w, hw, h => ⟨h.1, h.2 w hw⟩
  | f + 1, listed, a, L, w, hw, h => ⟨fun h0 => h.1 h0 w hw, fun i hi => by
      obtain ⟨o, ho, R, hy, hn⟩ := h.2 i hi
      exact hy.wpOp ho hw fun v w' ⟨L', hR, hw'⟩ => wpAny_of_F f _ _ _ w' hw' (hn v L' hR).2⟩
theorem wpAnyF_mono {Kp' : List (Nat × Obj)} (hK : ∀ p, p ∈ Kp → p ∈ Kp') : ∀ (f : Nat) (listed : Array Bool) (a : Act) (L : List (Nat × Obj)), wpAnyF P ops B0 w0 Kp' Q f listed a L → wpAnyF P ops B0 w0 Kp Q f listed a L
  | 0, _, _, _, h => h
  | f + 1, listed, a, L, h => ⟨h.1, fun i hi => by
      obtain ⟨o, ho, R, hy, hn⟩ := h.2 i hi
      exact ⟨o, ho, R, hy, fun v L' hR => ⟨fun p hp => (hn v L' hR).1 p (hK p hp), wpAnyF_mono hK f _ _ _ (hn v L' hR).2⟩⟩⟩
theorem xBy.stepF {o : Oper} {v : Value} {a : Act} (hy : xBy P ops o v a (Rep B0 w0 L) (Rep B0 w0 L')) : StepF P ops o a (Rep B0 w0 L) (outW B0 w0 fun u M => u = v ∧ M = L') := by
  rcases hy with ⟨h1, h2⟩ | ⟨h1, rfl, h2⟩
  · refine .inl ⟨h1, fun w hw => ?_⟩
    have h3 := h2 w hw
    generalize (execOp a.eval o).run P w = r at *
    cases r with
    | ok n w' =>
      cases n <;> simp only [uponTo] at h3 <;> simp only [uponF]
      case value u => exact ⟨L', ⟨h3.1, rfl⟩, h3.2⟩
      case skip => exact ⟨L', ⟨h3.1.symm, rfl⟩, h3.2⟩
      case enter f args => exact h3.mono fun e w'' ⟨he, hc⟩ => ⟨v, he, L', ⟨rfl, rfl⟩, hc⟩
    | halt x w' => exact h3.elim
  · exact .inr ⟨h1, fun w hw => ⟨L', ⟨rfl, rfl⟩, h2 w hw⟩⟩
theorem IsNew.stepF {o : Oper} {a : Act} {ob : Obj} {mk : Nat → Value} (hn : IsNew P o a ob mk) : StepF P ops o a (Rep B0 w0 L) (outW B0 w0 fun v M => ∃ b, v = mk b ∧ M = (b, ob) :: L) :=
  .inl ⟨by simp [Region.wanted, hn.guard], fun w hw => by
    rw [hn.run]
    exact ⟨_, ⟨_, rfl, rfl⟩, hw.alloc ob⟩⟩
theorem headF_first {i : Nat} {oi : Oper} {v : Value} (hi : ops[i]? = some oi) (hs : ∀ (j : Nat) (o : Oper) cs b, ops[j]? = some o → o.op ≠ .select cs b) : ∀ (fuel : Nat) (listed : Array Bool) (a : Act) (L : List (Nat × Obj)),
      (∀ j oj, ops[j]? = some oj → j ≠ i → listed.getD j true = false → (∀ e ∈ oj.after, Region.binds .any e = true → e.on ≠ i) → oi.apart ops oj = true) →
      i ∈ Region.ready .any ops listed → (∀ L', (∀ p, p ∈ Kp → p ∈ L') → xBy P ops oi v a (Rep B0 w0 L') (Rep B0 w0 L')) → (∀ p, p ∈ Kp → p ∈ L) →
      wpAnyF P ops B0 w0 Kp Q fuel (listed.setIfInBounds i true) (a.put oi.dst v) L → wpAnyF P ops B0 w0 Kp Q (fuel + 1) listed a L := by
  intro fuel
  induction fuel with
  | zero =>
    intro listed a L _ hr hy hL H
    refine ⟨fun h0 => (by rw [h0] at hr; cases hr), fun j hj => ?_⟩
    by_cases hji : j = i
    · subst hji
      exact ⟨oi, hi, _, (hy L hL).stepF, fun u M ⟨hu, hM⟩ => by subst hu hM; exact ⟨hL, H⟩⟩
    · have := ready_mono hj hji
      rw [H.1] at this
      cases this
  | succ fuel ih =>
    intro listed a L hfree hr hy hL H
    refine ⟨fun h0 => (by rw [h0] at hr; cases hr), fun j hj => ?_⟩
    by_cases hji : j = i
    · subst hji
      exact ⟨oi, hi, _, (hy L hL).stepF, fun u M ⟨hu, hM⟩ => by subst hu hM; exact ⟨hL, H⟩⟩
    · obtain ⟨oj, hoj, R, hst, hH⟩ := H.2 j (ready_mono hj hji)
      obtain ⟨hjun, oj', hoj', hall⟩ := mem_ready.1 hj
      obtain rfl : oj = oj' := Option.some.inj (hoj.symm.trans hoj')
      have hnot : ∀ e ∈ oj.after, Region.binds .any e = true → e.on ≠ i := fun e he hb heq => by
        have h1 := hall e he hb
        have h0 := (mem_ready.1 hr).1
        rw [heq] at h1
        rcases Nat.lt_or_ge i listed.size with h' | h'
        · simp [h'] at h0 h1; rw [h0] at h1; cases h1
        · simp [Array.getElem?_eq_none h'] at h1
      obtain ⟨p1, p2, p3⟩ := Oper.apart_spec (hfree j oj hoj hji hjun hnot)
      refine ⟨oj, hoj, R, (StepF.of_put (fun cs b => hs j oj cs b hoj) p1).1 hst, fun u L' hR => ⟨(hH u L' hR).1, ?_⟩⟩
      refine ih (listed.setIfInBounds j true) (a.put oj.dst u) L' (fun k ok hk hki hun hno => ?_) (ready_mono hr (Ne.symm hji)) (fun L'' hL'' => (xBy.of_put (fun cs b => hs i oi cs b hi) p3).2 (hy L'' hL'')) (hH u L' hR).1 ?_
      · refine hfree k ok hk hki ?_ hno
        by_cases hjk : j = k
        · subst hjk; exact hjun
        · rw [getD_set_ne true hjk] at hun; exact hun
      · rw [Array.setIfInBounds_comm _ _ hji, ← Act.put_comm a v u p2]
        exact (hH u L' hR).2
def headsOKF (ops : Array Oper) (ord : List (Nat × Bool)) (listed : Array Bool) : Bool := Region.noSelect ops && ordB ops (ord.map (·.1)) listed && ord.all fun i => i.2
theorem heads_allF {L : List (Nat × Obj)} (hs : ∀ (j : Nat) (o : Oper) cs b, ops[j]? = some o → o.op ≠ .select cs b) (hL : ∀ p, p ∈ Kp → p ∈ L) {K : Act → Prop} {n : Nat} : ∀ (ord : List (Nat × Bool)) (listed : Array Bool) (a : Act), ordB ops (ord.map (·.1)) listed = true → (ord.all fun i => i.2) = true →
    headW P ops (keeps B0 w0 Kp) (Rep B0 w0 L) K ord a → (∀ a', K a' → wpAnyF P ops B0 w0 Kp Q n (setAll (ord.map (·.1)) listed) a' L) → wpAnyF P ops B0 w0 Kp Q (ord.length + n) listed a L
  | [], listed, a, _, _, h, hn => by rw [List.length_nil, Nat.zero_add]; exact hn a h
  | (i, b) :: r, listed, a, hB, hT, h, hn => by
    simp only [List.map_cons, ordB, Bool.and_eq_true] at hB
    obtain ⟨⟨hr, hfr⟩, hB'⟩ := hB
    simp only [List.all_cons, Bool.and_eq_true] at hT
    obtain ⟨rfl, hT'⟩ := hT
    obtain ⟨o, v, ho, hy, _, hK⟩ := h
    have hr' : i ∈ Region.ready .any ops listed := by simpa using hr
    rw [List.length_cons, show r.length + 1 + n = (r.length + n) + 1 by omega]
    exact headF_first ho hs (r.length + n) listed a L (Region.free_spec ho hfr) hr' (fun L' hL' => hy rfl _ ⟨L', rfl, hL'⟩) hL
      (heads_allF hs hL r _ _ hB' hT' hK hn)
theorem fHeads (Kp' : List (Nat × Obj)) {l : List Oper} {L : List (Nat × Obj)} {listed : Array Bool} {a : Act} (ts : List Nat) (n : Nat) {f : Nat} (hf : f = (xCf 0 ts).length + n) (hK : ∀ p, p ∈ Kp → p ∈ Kp') (hL : ∀ p, p ∈ Kp' → p ∈ L) (hlen : ts.length = l.length) (hB : headsOKF l.toArray (xCf 0 ts) listed = true)
    (h : ∀ K : List Oper → Act → Prop, (∀ acc a', wpAnyF P l.toArray B0 w0 Kp' Q n (setAll ((xCf 0 ts).map (·.1)) listed) a' L → K acc a') → xCm P l.toArray (keeps B0 w0 Kp') (Rep B0 w0 L) K ts l [] a) : wpAnyF P l.toArray B0 w0 Kp Q f listed a L := by
  subst hf
  simp only [headsOKF, Bool.and_eq_true] at hB
  obtain ⟨⟨h1, h2⟩, h3⟩ := hB
  have hW := headW_of_M (P := P) (ops := l.toArray) (I := keeps B0 w0 Kp') (C := Rep B0 w0 L) (K := fun a' => wpAnyF P l.toArray B0 w0 Kp' Q n (setAll ((xCf 0 ts).map (·.1)) listed) a' L) ts l [] 0 a hlen (fun j => by simp) (fun a' ha' => ha') (h (fun _ a' => wpAnyF P l.toArray B0 w0 Kp' Q n (setAll ((xCf 0 ts).map (·.1)) listed) a' L) (fun _ _ h => h))
  exact wpAnyF_mono hK _ _ _ _ (heads_allF (Region.noSelect_spec h1) hL (xCf 0 ts) listed a h2 h3 hW (fun _ h => h))
theorem wp_region_F {id : Nat} {w : World} {l : List Oper} {L : List (Nat × Obj)} {a : Act} (hR : Rep B0 w0 L w) (n : Nat) (hm : P.follows .mixedOrders = true) (hn : l.length = n)
    (h : wpAnyF P l.toArray B0 w0 [] Q n (Array.replicate n false) a L) : (Code.region id l.toArray true).wp P Q a w := by
  subst hn
  refine wp_region_any hm ?_
  have := wpAny_of_F _ _ _ _ _ hR.drew h
  simpa using this
def stepsF (P : Program) (ops : Array Oper) (B0 : Nat) (w0 : World) (Kp : List (Nat × Obj)) (Q : Exit → Act → World → Prop) (n : Nat) (listed : Array Bool) (a : Act) (L : List (Nat × Obj)) : List Nat → Prop
  | [] => True
  | i :: r => (∃ o, ops[i]? = some o ∧ ∃ R, StepF P ops o a (Rep B0 w0 L) (outW B0 w0 R) ∧ ∀ v L', R v L' → (∀ p, p ∈ Kp → p ∈ L') ∧ wpAnyF P ops B0 w0 Kp Q n (listed.setIfInBounds i true) (a.put o.dst v) L') ∧ stepsF P ops B0 w0 Kp Q n listed a L r
theorem stepsF_all {n : Nat} {listed : Array Bool} {a : Act} : ∀ {is : List Nat}, stepsF P ops B0 w0 Kp Q n listed a L is → ∀ i ∈ is, ∃ o, ops[i]? = some o ∧ ∃ R, StepF P ops o a (Rep B0 w0 L) (outW B0 w0 R) ∧ ∀ v L', R v L' → (∀ p, p ∈ Kp → p ∈ L') ∧ wpAnyF P ops B0 w0 Kp Q n (listed.setIfInBounds i true) (a.put o.dst v) L'
  | [], _, i, hi => nomatch hi
  | _ :: _, h, i, hi => by
    rcases List.mem_cons.1 hi with rfl | hi
    · exact h.1
    · exact stepsF_all h.2 i hi
theorem f_at {n : Nat} {listed : Array Bool} {a : Act} (is : List Nat) (hr : decide (Region.ready .any ops listed = is) = true) (hne : is.isEmpty = false) (h : stepsF P ops B0 w0 Kp Q n listed a L is) : wpAnyF P ops B0 w0 Kp Q (n + 1) listed a L := by
  have hr := oD hr
  refine ⟨fun h0 => (by rw [h0] at hr; subst hr; cases hne), fun k hk => ?_⟩
  rw [hr] at hk
  exact stepsF_all h k hk
theorem f_nil {n : Nat} {listed : Array Bool} {a : Act} : stepsF P ops B0 w0 Kp Q n listed a L [] := trivial
theorem f_is (i : Nat) {n : Nat} {listed : Array Bool} {a : Act} {r : List Nat} (h : stepsF P ops B0 w0 Kp Q n listed a L (i :: r)) : stepsF P ops B0 w0 Kp Q n listed a L (i :: r) := h
theorem f_new {n : Nat} {listed : Array Bool} {a : Act} {i : Nat} {r : List Nat} {oi : Oper} {di : Tmp} {ob : Obj} {mk : Nat → Value} (hoi : ops[i]? = some oi) (hdi : oi.dst = some di) (hai : IsNew P oi a ob mk) (hk : ∀ p, p ∈ Kp → p ∈ L) (h : ∀ b, wpAnyF P ops B0 w0 Kp Q n (listed.setIfInBounds i true) (a.put (some di) (mk b)) ((b, ob) :: L))
    (hr : stepsF P ops B0 w0 Kp Q n listed a L r) : stepsF P ops B0 w0 Kp Q n listed a L (i :: r) := by
  rw [← hdi] at h
  exact ⟨⟨oi, hoi, _, hai.stepF, fun v M ⟨b, hv, hM⟩ => by subst hv hM; exact ⟨fun p hp => .tail _ (hk p hp), h b⟩⟩, hr⟩
theorem f_y {n : Nat} {listed : Array Bool} {a : Act} {i : Nat} {r : List Nat} {oi : Oper} {di : Tmp} {v : Value} (hoi : ops[i]? = some oi) (hdi : oi.dst = some di) (hy : xBy P ops oi v a (Rep B0 w0 L) (Rep B0 w0 L')) (hk : ∀ p, p ∈ Kp → p ∈ L')
    (h : wpAnyF P ops B0 w0 Kp Q n (listed.setIfInBounds i true) (a.put (some di) v) L') (hr : stepsF P ops B0 w0 Kp Q n listed a L r) : stepsF P ops B0 w0 Kp Q n listed a L (i :: r) := by
  rw [← hdi] at h
  exact ⟨⟨oi, hoi, _, hy.stepF, fun u M ⟨hu, hM⟩ => by subst hu hM; exact ⟨hk, h⟩⟩, hr⟩
theorem f_s {n : Nat} {listed : Array Bool} {a : Act} {i : Nat} {r : List Nat} {oi : Oper} {v : Value} (hoi : ops[i]? = some oi) (hdi : oi.dst = none) (hy : xBy P ops oi v a (Rep B0 w0 L) (Rep B0 w0 L')) (hk : ∀ p, p ∈ Kp → p ∈ L')
    (h : wpAnyF P ops B0 w0 Kp Q n (listed.setIfInBounds i true) a L') (hr : stepsF P ops B0 w0 Kp Q n listed a L r) : stepsF P ops B0 w0 Kp Q n listed a L (i :: r) := by
  refine ⟨⟨oi, hoi, _, hy.stepF, fun u M ⟨hu, hM⟩ => ?_⟩, hr⟩
  subst hu hM
  rw [hdi]
  exact ⟨hk, h⟩
theorem f_call {n : Nat} {listed : Array Bool} {a : Act} {i : Nat} {r : List Nat} {oi : Oper} {di : Tmp} (R : Value → List (Nat × Obj) → Prop) (hoi : ops[i]? = some oi) (hdi : oi.dst = some di) (hg : oi.guard = none) {f : FuncId} {xs : List Operand} {us : Array TypeId} (hop : oi.op = .call { callee := .value (.func f), args := xs.toArray, argTypes := us }) {vs : List Value} (hx' : evL a xs = some vs)
    (hent : ∀ w, (callFunc f vs.toArray).run P w = .ok (.enter f vs.toArray) w) (hq : ∀ w, Rep B0 w0 L w → Calls P f vs.toArray w fun e w' => ∃ v, e = .returned v ∧ outW B0 w0 R v w')
    (h : ∀ v M, R v M → (∀ p, p ∈ Kp → p ∈ M) ∧ wpAnyF P ops B0 w0 Kp Q n (listed.setIfInBounds i true) (a.put (some di) v) M) (hr : stepsF P ops B0 w0 Kp Q n listed a L r) : stepsF P ops B0 w0 Kp Q n listed a L (i :: r) := by
  rw [← hdi] at h
  refine ⟨⟨oi, hoi, R, .inl ⟨by simp [Region.wanted, hg], fun w hw => ?_⟩, h⟩, hr⟩
  have e : (execOp a.eval oi).run P w = .ok (.enter f vs.toArray) w := by
    have hx := xDb hx'
    unfold execOp
    simp only [hop, resolve, Deferred.ofValue, Act.eval, Sem.run_bind, Sem.run_pure, Result.andThen_ok, hx]
    have := hent w
    simpa [invoke] using this
  rw [e]
  exact hq w hw
theorem f_end {listed : Array Bool} {a : Act} (hr : decide (Region.ready .any ops listed = []) = true) (h : ∀ w, Rep B0 w0 L w → Q .normal a w) : wpAnyF P ops B0 w0 Kp Q 0 listed a L := ⟨oD hr, h⟩
end
end Go.Proofs.YtgfoeongjhkdmaaGreat
namespace Go.Proofs.YtgfoeongjhkdmaaGreat
open Go.RowKit
attribute [local irreducible] Calls
theorem build_nums2 (a b : Nat) (w : World) : (Instr.buildSlice 46 2 #[(0, num a), (1, num b)]).run Tryz.prog w = .ok (.slice (some ⟨w.heap.size, 0, none⟩) 2 2) (w.alloc (.cells (nl2 a b).toArray 24)) := by
  unfold num nl nl2
  go_simp
theorem numsAt2 {B0 b : Nat} {w0 w : World} {L : List (Nat × Obj)} {m n : Nat} {f : Nat → Nat} (hm : (b, Obj.cells (nl2 m n).toArray 24) ∈ L) (hR : Rep B0 w0 L w) (h0 : f 0 = m) (h1 : f 1 = n) : NumsAt w (some ⟨b, 0, none⟩) 2 f :=
  ⟨fun _ => ⟨b, 0, rfl, hR.lt hm, fun j hj => by
    have c := fun (k : Nat) (v : Value) (hv : (nl2 m n)[k]? = some v) => hR.cell (off := k) hm hv
    have : j = 0 ∨ j = 1 := by omega
    rcases this with rfl | rfl
    · rw [h0]; exact ⟨c 0 _ rfl, c 1 _ rfl, c 2 _ rfl, c 3 _ rfl⟩
    · rw [h1]; exact ⟨c 4 _ rfl, c 5 _ rfl, c 6 _ rfl, c 7 _ rfl⟩⟩⟩
end Go.Proofs.YtgfoeongjhkdmaaGreat
namespace Go.Proofs.YtgfoeongjhkdmaaGreat
open Go.RowKit
end Go.Proofs.YtgfoeongjhkdmaaGreat
namespace Go.Proofs.YtgfoeongjhkdmaaGreat
open Go.RowKit
attribute [local irreducible] Calls
noncomputable def zsTwo (a n b m : Nat) (ha : a < B) (hn : n < B) (hb : b < B) (hm : m < B) (j : Nat) : Pair := if j = 0 then ⟨(a, n), ha, hn⟩ else ⟨(b, m), hb, hm⟩
theorem prod2_lit {p q g h a b n m r : Nat} {e : Int} (hp : p < B) (hq : q < B) (h1 : 1 < p) (ha : a < B) (hb : b < B) (hn : n < B) (hm : m < B) (hr : (if mayG p a ∧ mayG p b then mulN (powN a n p) (powN b m p) p else 0) = r) (he : (if mayG p a ∧ mayG p b then (0 : Int) else 1) = e)
    {B0 b1 b2 : Nat} {w0 w : World} {L : List (Nat × Obj)} (m1 : (b1, Obj.cells (nl2 a b).toArray 24) ∈ L) (m2 : (b2, Obj.cells (nl2 n m).toArray 24) ∈ L) (hR : Rep B0 w0 L w) : Calls Tryz.prog 21 #[grp p q g h, .slice (some ⟨b1, 0, none⟩) 2 2, .slice (some ⟨b2, 0, none⟩) 2 2] w fun e' w' =>
    e' = .returned (.tuple #[num r, .int .i64 e]) ∧ Below w.heap.size w w' := by
  have z0 : (zsTwo a n b m ha hn hb hm 0).1 = (a, n) := rfl
  have z1 : (zsTwo a n b m ha hn hb hm 1).1 = (b, m) := rfl
  refine (product_go (q := q) (g := g) (h := h) hp hq h1 (some ⟨b1, 0, none⟩) (some ⟨b2, 0, none⟩) 2 2 2 (zsTwo a n b m ha hn hb hm) (by decide) w (numsAt2 m1 hR (by rw [z0]) (by rw [z1])) (numsAt2 m2 hR (by rw [z0]) (by rw [z1]))).mono ?_
  rintro e' w' ⟨hc, hbw⟩
  refine ⟨?_, hbw⟩
  have hup : up (zsTwo a n b m ha hn hb hm) 2 = [zsTwo a n b m ha hn hb hm 0, zsTwo a n b m ha hn hb hm 1] := rfl
  have hmay : mayAll p (up (zsTwo a n b m ha hn hb hm) 2) ↔ mayG p a ∧ mayG p b := by
    rw [hup]
    constructor
    · intro h
      exact ⟨h _ (.head _), h _ (.tail _ (.head _))⟩
    · rintro ⟨h, h'⟩ x hx
      rcases List.mem_cons.1 hx with rfl | hx
      · exact h
      · rcases List.mem_cons.1 hx with rfl | hx
        · exact h'
        · cases hx
  have hpr : prodL p (up (zsTwo a n b m ha hn hb hm) 2) = mulN (powN a n p) (powN b m p) p := by
    rw [hup]
    show stepP p (stepP p 1 _) _ = _
    rw [stepP_def, stepP_def, z0, z1]
    congr 1
    rw [xCv, Nat.one_mul, Nat.mod_eq_of_lt (pow_lt' h1 a n)]
  rw [hmay] at hc
  rw [hpr] at hc
  rcases hc with ⟨h, rfl⟩ | ⟨h, rfl⟩
  · rw [if_pos h] at hr he
    rw [← hr, ← he]
  · rw [if_neg h] at hr he
    rw [← hr, ← he]
end Go.Proofs.YtgfoeongjhkdmaaGreat
