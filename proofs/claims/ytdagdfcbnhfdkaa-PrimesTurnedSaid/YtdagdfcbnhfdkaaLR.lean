/- Weights of what lies in a list. -/
import Derived.SizedLaws
import Derived.Test.YtdagdfcbnhfdkaaLA
import Derived.ArgAppend
import Derived.Test.YtdagdfcbnhfdkaaLO
import Derived.Maps.AppendAt
import Derived.Laws.MakeOwn
import Derived.Test.YtdagdfcbnhfdkaaLP
import Derived.Test.YtdagdfcbnhfdkaaLF
import Derived.Test.YtdagdfcbnhfdkaaLM
set_option linter.unusedVariables false
set_option linter.unusedSimpArgs false
namespace Go.Proofs.Ytdagdfcbnhfdkaa
open Go.RowKit Go.ChangeShapes
theorem weights_in {H : Type} {P : Program} {e : TypeId} : ∀ {l : List (DataW H)} {d : DataW H}, d ∈ l → ∀ n ∈ d.weights P e, n ∈ DataW.weightsAll P e l
  | d' :: r, d, hd, n, hn => by
    simp only [DataW.weightsAll, List.mem_append]
    rcases List.mem_cons.1 hd with rfl | h
    · exact Or.inl hn
    · exact Or.inr (weights_in h n hn)
end Go.Proofs.Ytdagdfcbnhfdkaa
namespace Go.Proofs.Ytdagdfcbnhfdkaa
open Go.RowKit
section
variable {P : Program} {ops : Array Oper} {B0 : Nat} {w0 : World} {tl : List Nat} {Kp : List (Nat × Obj)} {Q : Exit → Act → World → Prop} {L L' : List (Nat × Obj)}
section
variable {o : Oper} {a : Act}
theorem wanted_of {o : Oper} (hg : o.guard = none) (y : Nat → Option Bool) : Region.wanted o y = true := by simp [Region.wanted, hg]
theorem yields_storeAll (hg : o.guard = none) {ty : TypeId} {x y : Operand} (hop : o.op = .store ty x y) {n : Nat} {b : Nat} (hx : ev a x = some (.pointer (some ⟨b, 0, none⟩))) (hT : RowT P ty n) {l vs : List Value} {t : TypeId}
    (hy : ev a y = some (.agg vs.toArray)) (h1 : vs.all (·.oneCell') = true) (hvn : vs.length = n) (hn : l.length = n) (hs : xAh L b (.cells l.toArray t) (.cells vs.toArray t) L') : xBt P ops o undef a (Rep B0 w0 L) (Rep B0 w0 L') :=
  .inl ⟨wanted_of hg _, fun w hR => by
    have hx := xBm hx
    have hy := xBm hy
    obtain ⟨w', e, hR'⟩ := hR.storeRow (P := P) (ty := ty) (off := 0) h1 hvn hs (by omega) (by simp [← hn])
    unfold execOp
    simp only [hop, hx, hy, Instr.storeAt, Instr.sureAddr, Sem.run_bind, Sem.run_pure, Result.andThen_ok, e]
    exact ⟨rfl, hR'⟩⟩
end
end
end Go.Proofs.Ytdagdfcbnhfdkaa
namespace Go.Proofs.Ytdagdfcbnhfdkaa
open Go.RowKit
section
variable {P : Program} {ops : Array Oper} {B0 : Nat} {w0 : World} {Kp : List (Nat × Obj)} {Q : Exit → Act → World → Prop} {L L' : List (Nat × Obj)}
def uponF (P : Program) (R : Value → World → Prop) : Result Next → Prop
  | .ok (.value u) w' => R u w'
  | .ok .skip w' => R undef w'
  | .ok (.enter f args) w' => Calls P f args w' fun e w'' => ∃ v, e = .returned v ∧ R v w''
  | _ => False
def StepF (P : Program) (ops : Array Oper) (o : Oper) (a : Act) (C : World → Prop) (R : Value → World → Prop) : Prop :=
  (Region.wanted o (yielded ops a.tmps) = true ∧ ∀ w, C w → uponF P R ((execOp a.eval o).run P w)) ∨ (Region.wanted o (yielded ops a.tmps) = false ∧ ∀ w, C w → R undef w)
theorem StepF.wpOp {i : Nat} {o : Oper} {a : Act} {C : World → Prop} {R : Value → World → Prop} {K : Act → World → Prop} {w : World} (hi : ops[i]? = some o) (hy : StepF P ops o a C R) (hw : C w) (h : ∀ v w', R v w' → K (a.put o.dst v) w') : wpOp P ops Q i K a w := by
  unfold Go.wpOp
  simp only [hi]
  rcases hy with ⟨h1, h2⟩ | ⟨h1, h2⟩
  · rw [if_pos h1]
    refine .inl ?_
    have h3 := h2 w hw
    unfold Oper.wp
    generalize (execOp a.eval o).run P w = r at *
    cases r with
    | ok n w' =>
      cases n <;> simp only [uponF] at h3 <;> simp only [Oper.upon]
      case value u => exact h _ _ h3
      case skip => exact h _ _ h3
      case enter f args => exact h3.mono fun e w'' ⟨v, he, hc⟩ => by subst he; exact h _ _ hc
    | halt x w' => exact h3.elim
  · rw [if_neg (by rw [h1]; exact Bool.false_ne_true)]
    exact h _ _ (h2 w hw)
theorem StepF.of_put {o : Oper} {u : Value} {a : Act} {d : Option Tmp} {C : World → Prop} {R : Value → World → Prop} (hs : ∀ cs b, o.op ≠ .select cs b) (hd : ∀ t, d = some t → t ∉ o.looksAt ops) : StepF P ops o (a.put d u) C R ↔ StepF P ops o a C R := by
  unfold StepF
  rw [wanted_put o a d u hd, execOp_put o hs a d u hd]
def outW (B0 : Nat) (w0 : World) (R : Value → List (Nat × Obj) → Prop) (v : Value) (w : World) : Prop := ∃ L, R v L ∧ Rep B0 w0 L w
def wpAnyF (P : Program) (ops : Array Oper) (B0 : Nat) (w0 : World) (Kp : List (Nat × Obj)) (Q : Exit → Act → World → Prop) : Nat → Array Bool → Act → List (Nat × Obj) → Prop
  | 0, listed, a, L => Region.ready .any ops listed = [] ∧ ∀ w, Rep B0 w0 L w → Q .normal a w
  | f + 1, listed, a, L => (Region.ready .any ops listed = [] → ∀ w, Rep B0 w0 L w → Q .normal a w) ∧ ∀ i ∈ Region.ready .any ops listed, ∃ o, ops[i]? = some o ∧
      ∃ R, StepF P ops o a (Rep B0 w0 L) (outW B0 w0 R) ∧ ∀ v L', R v L' → (∀ p, p ∈ Kp → p ∈ L') ∧ wpAnyF P ops B0 w0 Kp Q f (listed.setIfInBounds i true) (a.put o.dst v) L'
theorem wpAny_of_F : ∀ (f : Nat) (listed : Array Bool) (a : Act) (L : List (Nat × Obj)) (w : World), Rep B0 w0 L w → wpAnyF P ops B0 w0 Kp Q f listed a L → wpAny P .any ops Q f listed a w
  | 0, _, _, _, w, hw, h => ⟨h.1, h.2 w hw⟩
  | f + 1, listed, a, L, w, hw, h => ⟨fun h0 => h.1 h0 w hw, fun i hi => by
      obtain ⟨o, ho, R, hy, hn⟩ := h.2 i hi
      exact hy.wpOp ho hw fun v w' ⟨L', hR, hw'⟩ => wpAny_of_F f _ _ _ w' hw' (hn v L' hR).2⟩
theorem wpAnyF_mono {Kp' : List (Nat × Obj)} (hK : ∀ p, p ∈ Kp → p ∈ Kp') : ∀ (f : Nat) (listed : Array Bool) (a : Act) (L : List (Nat × Obj)), wpAnyF P ops B0 w0 Kp' Q f listed a L → wpAnyF P ops B0 w0 Kp Q f listed a L
  | 0, _, _, _, h => h
  | f + 1, listed, a, L, h => ⟨h.1, fun i hi => by
      obtain ⟨o, ho, R, hy, hn⟩ := h.2 i hi
      exact ⟨o, ho, R, hy, fun v L' hR => ⟨fun p hp => (hn v L' hR).1 p (hK p hp), wpAnyF_mono hK f _ _ _ (hn v L' hR).2⟩⟩⟩
theorem xBt.stepF {o : Oper} {v : Value} {a : Act} (hy : xBt P ops o v a (Rep B0 w0 L) (Rep B0 w0 L')) : StepF P ops o a (Rep B0 w0 L) (outW B0 w0 fun u M => u = v ∧ M = L') := by
  rcases hy with ⟨h1, h2⟩ | ⟨h1, rfl, h2⟩
  · refine .inl ⟨h1, fun w hw => ?_⟩
    have h3 := h2 w hw
    generalize (execOp a.eval o).run P w = r at *
    cases r with
    | ok n w' =>
      cases n <;> simp only [uponTo] at h3 <;> simp only [uponF]
      case value u => exact ⟨L', ⟨h3.1, rfl⟩, h3.2⟩
      case skip => exact ⟨L', ⟨h3.1.symm, rfl⟩, h3.2⟩
      case enter f args => exact h3.mono fun e w'' ⟨he, hc⟩ => ⟨v, he, L', ⟨rfl, rfl⟩, hc⟩
    | halt x w' => exact h3.elim
  · exact .inr ⟨h1, fun w hw => ⟨L', ⟨rfl, rfl⟩, h2 w hw⟩⟩
theorem IsNew.stepF {o : Oper} {a : Act} {ob : Obj} {mk : Nat → Value} (hn : IsNew P o a ob mk) : StepF P ops o a (Rep B0 w0 L) (outW B0 w0 fun v M => ∃ b, v = mk b ∧ M = (b, ob) :: L) :=
  .inl ⟨by simp [Region.wanted, hn.guard], fun w hw => by
    rw [hn.run]
    exact ⟨_, ⟨_, rfl, rfl⟩, hw.alloc ob⟩⟩
theorem headF_first {i : Nat} {oi : Oper} {v : Value} (hi : ops[i]? = some oi) (hs : ∀ (j : Nat) (o : Oper) cs b, ops[j]? = some o → o.op ≠ .select cs b) : ∀ (fuel : Nat) (listed : Array Bool) (a : Act) (L : List (Nat × Obj)),
      (∀ j oj, ops[j]? = some oj → j ≠ i → listed.getD j true = false → (∀ e ∈ oj.after, Region.binds .any e = true → e.on ≠ i) → oi.apart ops oj = true) →
      i ∈ Region.ready .any ops listed → (∀ L', (∀ p, p ∈ Kp → p ∈ L') → xBt P ops oi v a (Rep B0 w0 L') (Rep B0 w0 L')) → (∀ p, p ∈ Kp → p ∈ L) →
      wpAnyF P ops B0 w0 Kp Q fuel (listed.setIfInBounds i true) (a.put oi.dst v) L → wpAnyF P ops B0 w0 Kp Q (fuel + 1) listed a L := by
  intro fuel
  induction fuel with
  | zero =>
    intro listed a L _ hr hy hL H
    refine ⟨fun h0 => (by rw [h0] at hr; cases hr), fun j hj => ?_⟩
    by_cases hji : j = i
    · subst hji
      exact ⟨oi, hi, _, (hy L hL).stepF, fun u M ⟨hu, hM⟩ => by subst hu hM; exact ⟨hL, H⟩⟩
    · have := ready_mono hj hji
      rw [H.1] at this
      cases this
  | succ fuel ih =>
    intro listed a L hfree hr hy hL H
    refine ⟨fun h0 => (by rw [h0] at hr; cases hr), fun j hj => ?_⟩
    by_cases hji : j = i
    · subst hji
      exact ⟨oi, hi, _, (hy L hL).stepF, fun u M ⟨hu, hM⟩ => by subst hu hM; exact ⟨hL, H⟩⟩
    · obtain ⟨oj, hoj, R, hst, hH⟩ := H.2 j (ready_mono hj hji)
      obtain ⟨hjun, oj', hoj', hall⟩ := mem_ready.1 hj
      obtain rfl : oj = oj' := Option.some.inj (hoj.symm.trans hoj')
      have hnot : ∀ e ∈ oj.after, Region.binds .any e = true → e.on ≠ i := fun e he hb heq => by
        have h1 := hall e he hb
        have h0 := (mem_ready.1 hr).1
        rw [heq] at h1
        rcases Nat.lt_or_ge i listed.size with h' | h'
        · simp [h'] at h0 h1; rw [h0] at h1; cases h1
        · simp [Array.getElem?_eq_none h'] at h1
      obtain ⟨p1, p2, p3⟩ := Oper.apart_spec (hfree j oj hoj hji hjun hnot)
      refine ⟨oj, hoj, R, (StepF.of_put (fun cs b => hs j oj cs b hoj) p1).1 hst, fun u L' hR => ⟨(hH u L' hR).1, ?_⟩⟩
      refine ih (listed.setIfInBounds j true) (a.put oj.dst u) L' (fun k ok hk hki hun hno => ?_) (ready_mono hr (Ne.symm hji)) (fun L'' hL'' => (xBt.of_put (fun cs b => hs i oi cs b hi) p3).2 (hy L'' hL'')) (hH u L' hR).1 ?_
      · refine hfree k ok hk hki ?_ hno
        by_cases hjk : j = k
        · subst hjk; exact hjun
        · rw [getD_set_ne true hjk] at hun; exact hun
      · rw [Array.setIfInBounds_comm _ _ hji, ← Act.put_comm a v u p2]
        exact (hH u L' hR).2
def headsOKF (ops : Array Oper) (ord : List (Nat × Bool)) (listed : Array Bool) : Bool := Region.noSelect ops && ordB ops (ord.map (·.1)) listed && ord.all fun i => i.2
theorem heads_allF {L : List (Nat × Obj)} (hs : ∀ (j : Nat) (o : Oper) cs b, ops[j]? = some o → o.op ≠ .select cs b) (hL : ∀ p, p ∈ Kp → p ∈ L) {K : Act → Prop} {n : Nat} : ∀ (ord : List (Nat × Bool)) (listed : Array Bool) (a : Act), ordB ops (ord.map (·.1)) listed = true → (ord.all fun i => i.2) = true →
    headW P ops (keeps B0 w0 Kp) (Rep B0 w0 L) K ord a → (∀ a', K a' → wpAnyF P ops B0 w0 Kp Q n (setAll (ord.map (·.1)) listed) a' L) → wpAnyF P ops B0 w0 Kp Q (ord.length + n) listed a L
  | [], listed, a, _, _, h, hn => by rw [List.length_nil, Nat.zero_add]; exact hn a h
  | (i, b) :: r, listed, a, hB, hT, h, hn => by
    simp only [List.map_cons, ordB, Bool.and_eq_true] at hB
    obtain ⟨⟨hr, hfr⟩, hB'⟩ := hB
    simp only [List.all_cons, Bool.and_eq_true] at hT
    obtain ⟨rfl, hT'⟩ := hT
    obtain ⟨o, v, ho, hy, _, hK⟩ := h
    have hr' : i ∈ Region.ready .any ops listed := by simpa using hr
    rw [List.length_cons, show r.length + 1 + n = (r.length + n) + 1 by omega]
    exact headF_first ho hs (r.length + n) listed a L (Region.free_spec ho hfr) hr' (fun L' hL' => hy rfl _ ⟨L', rfl, hL'⟩) hL
      (heads_allF hs hL r _ _ hB' hT' hK hn)
theorem fHeads (Kp' : List (Nat × Obj)) {l : List Oper} {L : List (Nat × Obj)} {listed : Array Bool} {a : Act} (ts : List Nat) (n : Nat) {f : Nat} (hf : f = (xCg 0 ts).length + n) (hK : ∀ p, p ∈ Kp → p ∈ Kp') (hL : ∀ p, p ∈ Kp' → p ∈ L) (hlen : ts.length = l.length) (hB : headsOKF l.toArray (xCg 0 ts) listed = true)
    (h : ∀ K : List Oper → Act → Prop, (∀ acc a', wpAnyF P l.toArray B0 w0 Kp' Q n (setAll ((xCg 0 ts).map (·.1)) listed) a' L → K acc a') → xBz P l.toArray (keeps B0 w0 Kp') (Rep B0 w0 L) K ts l [] a) : wpAnyF P l.toArray B0 w0 Kp Q f listed a L := by
  subst hf
  simp only [headsOKF, Bool.and_eq_true] at hB
  obtain ⟨⟨h1, h2⟩, h3⟩ := hB
  have hW := headW_of_M (P := P) (ops := l.toArray) (I := keeps B0 w0 Kp') (C := Rep B0 w0 L) (K := fun a' => wpAnyF P l.toArray B0 w0 Kp' Q n (setAll ((xCg 0 ts).map (·.1)) listed) a' L) ts l [] 0 a hlen (fun j => by simp) (fun a' ha' => ha') (h (fun _ a' => wpAnyF P l.toArray B0 w0 Kp' Q n (setAll ((xCg 0 ts).map (·.1)) listed) a' L) (fun _ _ h => h))
  exact wpAnyF_mono hK _ _ _ _ (heads_allF (Region.noSelect_spec h1) hL (xCg 0 ts) listed a h2 h3 hW (fun _ h => h))
theorem wp_region_F {id : Nat} {w : World} {l : List Oper} {L : List (Nat × Obj)} {a : Act} (hR : Rep B0 w0 L w) (n : Nat) (hm : P.follows .mixedOrders = true) (hn : l.length = n)
    (h : wpAnyF P l.toArray B0 w0 [] Q n (Array.replicate n false) a L) : (Code.region id l.toArray true).wp P Q a w := by
  subst hn
  refine wp_region_any hm ?_
  have := wpAny_of_F _ _ _ _ _ hR.drew h
  simpa using this
def stepsF (P : Program) (ops : Array Oper) (B0 : Nat) (w0 : World) (Kp : List (Nat × Obj)) (Q : Exit → Act → World → Prop) (n : Nat) (listed : Array Bool) (a : Act) (L : List (Nat × Obj)) : List Nat → Prop
  | [] => True
  | i :: r => (∃ o, ops[i]? = some o ∧ ∃ R, StepF P ops o a (Rep B0 w0 L) (outW B0 w0 R) ∧ ∀ v L', R v L' → (∀ p, p ∈ Kp → p ∈ L') ∧ wpAnyF P ops B0 w0 Kp Q n (listed.setIfInBounds i true) (a.put o.dst v) L') ∧ stepsF P ops B0 w0 Kp Q n listed a L r
theorem stepsF_all {n : Nat} {listed : Array Bool} {a : Act} : ∀ {is : List Nat}, stepsF P ops B0 w0 Kp Q n listed a L is → ∀ i ∈ is, ∃ o, ops[i]? = some o ∧ ∃ R, StepF P ops o a (Rep B0 w0 L) (outW B0 w0 R) ∧ ∀ v L', R v L' → (∀ p, p ∈ Kp → p ∈ L') ∧ wpAnyF P ops B0 w0 Kp Q n (listed.setIfInBounds i true) (a.put o.dst v) L'
  | [], _, i, hi => nomatch hi
  | _ :: _, h, i, hi => by
    rcases List.mem_cons.1 hi with rfl | hi
    · exact h.1
    · exact stepsF_all h.2 i hi
theorem f_at {n : Nat} {listed : Array Bool} {a : Act} (is : List Nat) (hr : decide (Region.ready .any ops listed = is) = true) (hne : is.isEmpty = false) (h : stepsF P ops B0 w0 Kp Q n listed a L is) : wpAnyF P ops B0 w0 Kp Q (n + 1) listed a L := by
  have hr := oD hr
  refine ⟨fun h0 => (by rw [h0] at hr; subst hr; cases hne), fun k hk => ?_⟩
  rw [hr] at hk
  exact stepsF_all h k hk
theorem f_nil {n : Nat} {listed : Array Bool} {a : Act} : stepsF P ops B0 w0 Kp Q n listed a L [] := trivial
theorem f_is (i : Nat) {n : Nat} {listed : Array Bool} {a : Act} {r : List Nat} (h : stepsF P ops B0 w0 Kp Q n listed a L (i :: r)) : stepsF P ops B0 w0 Kp Q n listed a L (i :: r) := h
theorem f_new {n : Nat} {listed : Array Bool} {a : Act} {i : Nat} {r : List Nat} {oi : Oper} {di : Tmp} {ob : Obj} {mk : Nat → Value} (hoi : ops[i]? = some oi) (hdi : oi.dst = some di) (hai : IsNew P oi a ob mk) (hk : ∀ p, p ∈ Kp → p ∈ L) (h : ∀ b, wpAnyF P ops B0 w0 Kp Q n (listed.setIfInBounds i true) (a.put (some di) (mk b)) ((b, ob) :: L))
    (hr : stepsF P ops B0 w0 Kp Q n listed a L r) : stepsF P ops B0 w0 Kp Q n listed a L (i :: r) := by
  rw [← hdi] at h
  exact ⟨⟨oi, hoi, _, hai.stepF, fun v M ⟨b, hv, hM⟩ => by subst hv hM; exact ⟨fun p hp => .tail _ (hk p hp), h b⟩⟩, hr⟩
theorem f_y {n : Nat} {listed : Array Bool} {a : Act} {i : Nat} {r : List Nat} {oi : Oper} {di : Tmp} {v : Value} (hoi : ops[i]? = some oi) (hdi : oi.dst = some di) (hy : xBt P ops oi v a (Rep B0 w0 L) (Rep B0 w0 L')) (hk : ∀ p, p ∈ Kp → p ∈ L')
    (h : wpAnyF P ops B0 w0 Kp Q n (listed.setIfInBounds i true) (a.put (some di) v) L') (hr : stepsF P ops B0 w0 Kp Q n listed a L r) : stepsF P ops B0 w0 Kp Q n listed a L (i :: r) := by
  rw [← hdi] at h
  exact ⟨⟨oi, hoi, _, hy.stepF, fun u M ⟨hu, hM⟩ => by subst hu hM; exact ⟨hk, h⟩⟩, hr⟩
theorem f_s {n : Nat} {listed : Array Bool} {a : Act} {i : Nat} {r : List Nat} {oi : Oper} {v : Value} (hoi : ops[i]? = some oi) (hdi : oi.dst = none) (hy : xBt P ops oi v a (Rep B0 w0 L) (Rep B0 w0 L')) (hk : ∀ p, p ∈ Kp → p ∈ L')
    (h : wpAnyF P ops B0 w0 Kp Q n (listed.setIfInBounds i true) a L') (hr : stepsF P ops B0 w0 Kp Q n listed a L r) : stepsF P ops B0 w0 Kp Q n listed a L (i :: r) := by
  refine ⟨⟨oi, hoi, _, hy.stepF, fun u M ⟨hu, hM⟩ => ?_⟩, hr⟩
  subst hu hM
  rw [hdi]
  exact ⟨hk, h⟩
theorem f_call {n : Nat} {listed : Array Bool} {a : Act} {i : Nat} {r : List Nat} {oi : Oper} {di : Tmp} (R : Value → List (Nat × Obj) → Prop) (hoi : ops[i]? = some oi) (hdi : oi.dst = some di) (hg : oi.guard = none) {f : FuncId} {xs : List Operand} {us : Array TypeId} (hop : oi.op = .call { callee := .value (.func f), args := xs.toArray, argTypes := us }) {vs : List Value} (hx' : evL a xs = some vs)
    (hent : ∀ w, (callFunc f vs.toArray).run P w = .ok (.enter f vs.toArray) w) (hq : ∀ w, Rep B0 w0 L w → Calls P f vs.toArray w fun e w' => ∃ v, e = .returned v ∧ outW B0 w0 R v w')
    (h : ∀ v M, R v M → (∀ p, p ∈ Kp → p ∈ M) ∧ wpAnyF P ops B0 w0 Kp Q n (listed.setIfInBounds i true) (a.put (some di) v) M) (hr : stepsF P ops B0 w0 Kp Q n listed a L r) : stepsF P ops B0 w0 Kp Q n listed a L (i :: r) := by
  rw [← hdi] at h
  refine ⟨⟨oi, hoi, R, .inl ⟨by simp [Region.wanted, hg], fun w hw => ?_⟩, h⟩, hr⟩
  have e : (execOp a.eval oi).run P w = .ok (.enter f vs.toArray) w := by
    have hx := evL_eval hx'
    unfold execOp
    simp only [hop, resolve, Deferred.ofValue, Act.eval, Sem.run_bind, Sem.run_pure, Result.andThen_ok, hx]
    have := hent w
    simpa [invoke] using this
  rw [e]
  exact hq w hw
theorem f_end {listed : Array Bool} {a : Act} (hr : decide (Region.ready .any ops listed = []) = true) (h : ∀ w, Rep B0 w0 L w → Q .normal a w) : wpAnyF P ops B0 w0 Kp Q 0 listed a L := ⟨oD hr, h⟩
end
end Go.Proofs.Ytdagdfcbnhfdkaa
namespace Go.Proofs.Ytdagdfcbnhfdkaa
open Go.RowKit
attribute [local irreducible] Calls
def SmallT : RT → Prop
  | .leaf => True
  | .node _ _ k p => k ≤ 1599289640354 ∧ ∀ j, j < k → SmallT (p j)
theorem info_rsn : (Try.prog.info? 27).map (fun i => (i.zero.map (fun z => z.cells.size), i.size, i.bytes)) = some (some 9, 9, 88) := by kernel_rfl
theorem info_rsnP : ∃ i z, Try.prog.info? 27 = some i ∧ i.zero = some z ∧ z.cells.size = 9 ∧ i.size = 9 ∧ i.bytes = 88 := by
  have h := info_rsn
  cases hi : Try.prog.info? 27 with
  | none => rw [hi] at h; cases h
  | some i =>
    rw [hi] at h
    simp only [Option.map_some, Option.some.injEq, Prod.mk.injEq] at h
    obtain ⟨h1, h2, h3⟩ := h
    cases hz : i.zero with
    | none => rw [hz] at h1; cases h1
    | some z => rw [hz] at h1; exact ⟨i, z, rfl, hz, by simpa using h1, h2, h3⟩
theorem make_rsn (c : Nat) (hc : c ≤ 3000000000000) : ∃ l : List Value, l.length = c * 9 ∧ ∀ w : World, (Instr.makeSlice 25 (.int .i64 0) (.int .i64 (c : Int))).run Try.prog w = .ok (.slice (some ⟨w.heap.size, 0, none⟩) 0 c) (w.alloc (.cells l.toArray 27)) := by
  obtain ⟨i, z, hi, hz, hzs, hsize, hby⟩ := info_rsnP
  refine ⟨(madeCells z.cells (c * 9)).toList, by simp [size_madeCells], fun w => ?_⟩
  have := run_make (P := Try.prog) w 25 27 i z Try.underlying25 hi hz .i64 .i64 0 (c : Int) (by decide) (by omega) (by rw [hby]; omega) (by omega)
  rw [this, hsize]
  simp
theorem rsn_new (n t : Nat) (a : Option Addr) (k c : Nat) (w : World) : (Instr.buildSlice 25 1 #[(0, .agg (rrow n t (.slice a k c)).toArray)]).run Try.prog w = .ok (.slice (some ⟨w.heap.size, 0, none⟩) 1 1) (w.alloc (.cells (rrow n t (.slice a k c)).toArray 27)) := by
  unfold rrow
  go_simp
theorem build_rsn (n t : Nat) (a : Option Addr) (k c : Nat) (w : World) : (Instr.build 27 #[(0, .agg (nl n).toArray), (1, .agg (nl t).toArray), (2, .slice a k c)]).run Try.prog w = .ok (.agg (rrow n t (.slice a k c)).toArray) w := by
  unfold rrow nl
  kernel_rfl
theorem build_77 (w : World) : (Instr.build 24 #[(0, .int .u64 77)]).run Try.prog w = .ok (.agg (nl 77).toArray) w := by
  have e : nl 77 = [.int .u64 77, .int .u64 0, .int .u64 0, .int .u64 0] := by
    unfold nl
    simp [wd_def]
  have h : (Instr.build 24 #[(0, .int .u64 77)]).run Try.prog w = .ok (.agg [Value.int .u64 77, .int .u64 0, .int .u64 0, .int .u64 0].toArray) w := by kernel_rfl
  rw [e]
  exact h
attribute [local irreducible] Instr.build Instr.buildSlice
section
variable {B0 : Nat} {w0 w : World} {L : List (Nat × Obj)}
section
variable {ops : Array Oper} {rest : List Oper} {o : Oper} {a : Act} {Q : Exit → Act → World → Prop}
theorem wpList_rsnNew {x : Operand} {n t k c : Nat} {pa : Option Addr} (hR : Rep B0 w0 L w) (hg : o.guard = none) (hop : o.op = .buildSlice 25 1 #[(0, x)]) (hx : ev a x = some (.agg (rrow n t (.slice pa k c)).toArray))
    (h : ∀ b w', Rep B0 w0 ((b, .cells (rrow n t (.slice pa k c)).toArray 27) :: L) w' → wpList Try.prog ops Q rest (a.put o.dst (.slice (some ⟨b, 0, none⟩) 1 1)) w') : wpList Try.prog ops Q (o :: rest) a w :=
  wpList_plain hg fun _ hK => by
    have hx := xBm hx
    unfold Oper.wp execOp
    simp only [hop, List.map_toArray, List.map_cons, List.map_nil, hx, rsn_new, Sem.run_bind, Result.andThen_ok, Sem.run_pure]
    exact hK _ _ (h _ _ (hR.alloc _))
theorem wpList_appendRsn {b g cap n : Nat} {cur row : List Value} (hR : Rep B0 w0 ((b, .cells row.toArray 27) :: (g, .cells cur.toArray 27) :: L) w) (hgd : o.guard = none) {s y : Operand} (ho : o.op = .call { callee := .builtin .append, args := #[s, y], argTypes := #[25, 25] })
    (hs : a.eval s = .slice (some ⟨g, 0, none⟩) n cap) (hy : a.eval y = .slice (some ⟨b, 0, none⟩) 1 1) (hn : n ≤ cap) (hc : cap ≤ maxLen) (hcl : cur.length = cap * 9) (hrl : row.length = 9) (h1 : ∀ u ∈ row, u.oneCell' = true) (hbig : n ≤ 1599289640354)
    (h : ∀ g' cap' (cur' : List Value) w', Rep B0 w0 ((g', .cells cur'.toArray 27) :: L) w' → n + 1 ≤ cap' → cap' ≤ maxLen → cur'.length = cap' * 9 → cur'.take ((n + 1) * 9) = cur.take (n * 9) ++ row → wpList Try.prog ops Q rest (a.put o.dst (.slice (some ⟨g', 0, none⟩) (n + 1) cap')) w') : wpList Try.prog ops Q (o :: rest) a w := by
  obtain ⟨i, z, hi, hz, hzs, hsize, hby⟩ := info_rsnP
  have hnews : ∀ j u, row[j]? = some u → w.cell? ((⟨b, 0, none⟩ : Addr).add j) = some u := fun j u hj => by
    have e : ((⟨b, 0, none⟩ : Addr).add j) = ⟨b, 0 + j, none⟩ := by unfold Addr.add; split <;> simp_all
    rw [e, Nat.zero_add]
    exact hR.cell (.head _) hj
  have hR1 : Rep B0 w0 ((g, .cells cur.toArray 27) :: L) w := hR.drop1
  refine wpList_append_own_at (P := Try.prog) w hgd s y 25 ho B0 27 i z 9 88 Try.underlying25 hi hz hsize hby hzs (by decide) _ n (cur.take (n * 9)) hs ⟨by rw [List.length_take, hcl]; have := Nat.mul_le_mul_right 9 hn; omega, .inr ⟨g, cap, cur.toArray, rfl, (hR1.own _ (.head _)).1, (hR1.own _ (.head _)).2, hn, hc, by simpa using hcl, by simp⟩⟩ _ 1 1 row hy (by rw [hrl]) hnews h1 (by unfold maxLen; omega) (by omega) hR.le ?_
  intro v' w' hO hgr hiff hat
  obtain ⟨hl', ⟨hv, _⟩ | ⟨g', cap', cur', rfl, hB, hh, k2, k3, k4, k5⟩⟩ := hO
  · exact absurd (hiff.1 hv).2 (by decide)
  · have hR' := hR1.drop1.grow' hgr (fun r hr => by
      obtain rfl : g = r := Option.some.inj hr
      exact ⟨(hR1.own _ (.head _)).1, hR1.apart⟩)
    have hR2 := hR'.add' hB hh (fun p hp e => by
      rcases hat with hat | hat
      · have hgg : g' = g := Option.some.inj hat
        exact hR1.apart p hp (e.trans hgg)
      · have hgg : g' = w.heap.size := Option.some.inj hat
        have := hR1.lt (.tail _ hp)
        omega)
    refine h g' cap' cur'.toList w' (by simpa using hR2) k2 k3 (by simpa using k4) ?_
    simpa using k5
end
def TwAt (M : List (Nat × Obj)) : RT → List Value → Prop
  | .leaf, _ => False
  | .node n t k p, l => n < B ∧ t < B ∧ ∃ g cap, ∃ cur : List Value, ∃ V : Nat → List Value, l = rrow n t (.slice (some ⟨g, 0, none⟩) k cap) ∧ k + 1 ≤ cap ∧ cap ≤ maxLen ∧ cur.length = cap * 9 ∧ (g, Obj.cells cur.toArray 27) ∈ M ∧
      (∀ j, j < k → (cur.drop (j * 9)).take 9 = V j) ∧ (cur.drop (k * 9)).take 9 = rrow 77 0 (.slice none 0 0) ∧ ∀ j, j < k → TwAt M (p j) (V j)
theorem TwAt.mono {M M' : List (Nat × Obj)} (hM : ∀ p, p ∈ M → p ∈ M') : ∀ {r : RT} {l : List Value}, TwAt M r l → TwAt M' r l
  | .leaf, _, h => h.elim
  | .node n t k p, l, ⟨h1, h2, g, cap, cur, V, h3, h4, h5, h6, h7, h8, h9, h10⟩ => ⟨h1, h2, g, cap, cur, V, h3, h4, h5, h6, hM _ h7, h8, h9, fun j hj => TwAt.mono hM (h10 j hj)⟩
theorem TwAt.row {M : List (Nat × Obj)} : ∀ {r : RT} {l : List Value}, TwAt M r l → ∃ t a k c, l = rrow r.num t (.slice a k c) ∧ r.num < B ∧ t < B
  | .leaf, _, h => h.elim
  | .node n t k p, l, ⟨h1, h2, g, cap, cur, V, h3, _⟩ => ⟨t, _, k, cap, h3, h1, h2⟩
theorem tw_at {M L : List (Nat × Obj)} (hM : ∀ p, p ∈ M → p ∈ L) : ∀ {r : RT} {l : List Value}, TwAt M r l → RAt B0 w0 L r l
  | .leaf, _, h => h.elim
  | .node n t k p, l, ⟨h1, h2, g, cap, cur, V, h3, h4, h5, h6, h7, h8, h9, h10⟩ => ⟨h1, h2, some ⟨g, 0, none⟩, cap, V, h3, by omega, h5, fun _ => ⟨g, 0, rfl, fun w hw j hj => by
      rw [Nat.zero_add]
      exact hw.rangeAt (hM _ h7) (h8 j hj)⟩, fun j hj => tw_at hM (h10 j hj)⟩
end
end Go.Proofs.Ytdagdfcbnhfdkaa
namespace Go.Proofs.Ytdagdfcbnhfdkaa
open Go.RowKit Go.ChangeShapes
theorem bytes_rsn : Try.prog.bytesOf 27 = 88 := by kernel_rfl
set_option maxRecDepth 100000 in
theorem trod_reasonS {H : Type} {enc : TypeId × Value → H} {W : World} {base : Nat} {sp : Nat → Bool} {held : Bool} (fuel : Nat) : ∀ {l : List Value} {y : DataW H × List MemPlace}, l.length = 9 → (∀ m ∈ y.1.weights Try.prog 27, m ≤ reachBytes) → DataW.trod enc Try.prog W base sp held fuel 27 l = some y → ∃ r, RAt W.heap.size W [] r l ∧ SmallT r := by
  induction fuel using Nat.strongRecOn with
  | _ fuel ih =>
    intro l y hl hsz hf
    obtain ⟨xs, m, rfl, hx, _, hn, hi⟩ := DataW.trod_struct Try.underlying27 hf
    obtain ⟨x0, x1, x2, rfl⟩ := list3R xs hn
    have h0 : DataW.trod enc Try.prog W base sp held m 24 ((l.drop 0).take (Try.prog.cellsOf 24)) = some x0 := hi 0 _ rfl
    have h1 : DataW.trod enc Try.prog W base sp held m 24 ((l.drop 4).take (Try.prog.cellsOf 24)) = some x1 := hi 1 _ rfl
    have h2 : DataW.trod enc Try.prog W base sp held m 25 ((l.drop 8).take (Try.prog.cellsOf 25)) = some x2 := hi 2 _ rfl
    have hsz2 : ∀ m ∈ x2.1.weights Try.prog 25, m ≤ reachBytes := fun m hm => hsz m (by
      rw [hx]
      simp only [DataW.weights, Try.underlying27]
      exact DataW.weights_mem_each (j := 2) rfl rfl _ hm)
    rw [cells_numR] at h0 h1
    rw [cells_parts] at h2
    obtain ⟨n, ln, en, _⟩ := trod_numG (by simp; omega) h0
    obtain ⟨t, lt, et, _⟩ := trod_numG (by simp; omega) h1
    rcases DataW.trod_slice Try.underlying25 h2 with ⟨hv, _⟩ | ⟨a, len, cap, elems, rest, q, hq, hv, hy2, _, hlc, hcm, hlen, hel, _, _⟩
    · refine ⟨.node n t 0 fun _ => .leaf, ⟨ln, lt, none, 0, fun _ => [], row9 hl en et hv, Nat.le_refl _, Nat.zero_le _, fun h => absurd rfl h, fun j hj => absurd hj (Nat.not_lt_zero j)⟩, by decide, fun j hj => absurd hj (Nat.not_lt_zero j)⟩
    · rw [cells_rsn] at hel
      have hx2 : x2.1 = .slice (elems.map (·.1)) (rest.map (·.1)) := by rw [hy2]
      rw [hx2] at hsz2
      simp only [DataW.weights, Try.underlying25, bytes_rsn, List.length_map, hlen] at hsz2
      have hk : len ≤ 1599289640354 := by
        have := hsz2 _ (.head _)
        unfold reachBytes at this
        omega
      have each : ∀ j, j < len → ∃ r, ∃ cs : List Value, (RAt W.heap.size W [] r cs ∧ SmallT r) ∧ cs.length = 9 ∧ ∀ k, k < 9 → W.cell? ((a.add (j * 9)).add k) = cs[k]? := fun j hj => by
        have h3 := hel j hj
        rw [List.getElem?_eq_getElem (by omega), Option.bind_eq_some_iff] at h3
        obtain ⟨cs, hc, ht⟩ := h3
        obtain ⟨_, c2, c3⟩ := World.cells?_some hc
        obtain ⟨r, hr⟩ := ih q (by omega) c2 (fun m hm => hsz2 m (.tail _ (List.mem_append_left _ (weights_in (List.mem_map.2 ⟨_, List.getElem_mem _, rfl⟩) m hm)))) ht
        exact ⟨r, cs, hr, c2, c3⟩
      classical
      obtain ⟨ps, V, hps⟩ : ∃ (ps : Nat → RT) (V : Nat → List Value), ∀ j, j < len → (RAt W.heap.size W [] (ps j) (V j) ∧ SmallT (ps j)) ∧ (V j).length = 9 ∧ ∀ k, k < 9 → W.cell? ((a.add (j * 9)).add k) = (V j)[k]? := by
        refine ⟨fun j => if hj : j < len then (each j hj).choose else .leaf, fun j => if hj : j < len then (each j hj).choose_spec.choose else [], fun j hj => ?_⟩
        simp only [dif_pos hj]
        exact (each j hj).choose_spec.choose_spec
      refine ⟨.node n t len ps, ⟨ln, lt, some a, cap, V, row9 hl en et hv, hlc, hcm, fun h0 => ?_, fun j hj => (hps j hj).1.1⟩, hk, fun j hj => (hps j hj).1.2⟩
      have hpos : 0 < len := by omega
      obtain ⟨_, l0, hc0⟩ := hps 0 hpos
      have hc0 := hc0 0 (by decide)
      rw [List.getElem?_eq_getElem (by omega), Nat.zero_mul] at hc0
      have ea : (a.add 0).add 0 = a.add 0 := by unfold Addr.add; split <;> simp_all
      rw [ea] at hc0
      obtain ⟨bb, off, rfl, hblk⟩ := addr_plainR hc0
      refine ⟨bb, off, rfl, fun w hw j hj k v hk => ?_⟩
      obtain ⟨_, lj, hcj⟩ := hps j hj
      have hk9 : k < 9 := by
        have := (List.getElem?_eq_some_iff.1 hk).1
        omega
      have := hcj k hk9
      rw [addr_noneR, addr_noneR] at this
      rw [hw.below.cell (p := ⟨bb, off + j * 9 + k, none⟩) hblk, this, hk]
set_option maxRecDepth 100000 in
theorem open_reasonS {H : Type} {enc : TypeId × Value → H} {W : World} {base b0 : Nat} {rc : Reach} {sp : Nat → Bool} {held : Bool} {v : Value} {d : DataW H} {ps : List MemPlace} {ts : List TypeId} {ds : List (DataW H)} {j : Nat}
    (hsz : (DataW.weightsEach Try.prog ts ds).all (· ≤ reachBytes) = true) (ht : ts[j]? = some 27) (hdj : ds[j]? = some d) (hval : Value.okWide Try.prog W rc b0 27 v) (hd : DataW.Trod enc Try.prog W base sp held 27 v d ps) :
    ∃ r, ∃ l : List Value, v = .agg l.toArray ∧ RAt W.heap.size W [] r l ∧ SmallT r := by
  obtain ⟨cs, rfl, hcs, _⟩ : ∃ cs, v = .agg cs ∧ cs.size = Try.prog.cellsOf 27 ∧ Row.okWide Try.prog W rc b0 27 cs := by
    simpa [Value.okWide, Try.underlying27] using hval
  rw [cells_rsn] at hcs
  obtain ⟨l⟩ := cs
  obtain ⟨fuel, hf⟩ := hd
  obtain ⟨r, hr, hs⟩ := trod_reasonS fuel (by exact hcs) (fun m hm => oD (List.all_eq_true.1 hsz _ (DataW.weights_mem_each ht hdj _ hm))) hf
  exact ⟨r, l, rfl, hr, hs⟩
end Go.Proofs.Ytdagdfcbnhfdkaa
namespace Go.Proofs.Ytdagdfcbnhfdkaa
open Go.RowKit
end Go.Proofs.Ytdagdfcbnhfdkaa
