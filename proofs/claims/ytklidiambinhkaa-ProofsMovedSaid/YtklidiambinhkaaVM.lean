/- The laws' own helpers of layer 3: of, alive. -/
import Derived.Test.YtklidiambinhkaaVJ
import Derived.Test.YtklidiambinhkaaVMul
import Derived.Test.YtklidiambinhkaaVB
set_option linter.unusedVariables false
set_option linter.unusedSimpArgs false
namespace Go.Proofs.Ytklidiambinhkaa
open Go.RowKit
theorem d_lit {a b q r : Nat} {e : Int} (ha : a < B) (hb : b < B) (hq : quo0 a b = q) (hr : rem0 a b = r) (he : (if b = 0 then (1 : Int) else 0) = e) (w : World) : Calls Try.prog 67 #[num a, num b] w fun e' w' =>
    e' = .returned (.tuple #[num q, num r, .int .i64 e]) ∧ Below w.heap.size w w' := by
  have := div_any a b ha hb w
  rwa [hq, hr, he] at this
theorem w_lit {a b m r : Nat} {e : Int} (ha : a < B) (hb : b < B) (hm : m < B) (hr : widN a b m = r) (he : (if m = 0 then (1 : Int) else 0) = e) (w : World) : Calls Try.prog 71 #[num a, num b, num m] w fun e' w' =>
    e' = .returned (.tuple #[num r, .int .i64 e]) ∧ Below w.heap.size w w' := by
  have := wide_any a b m ha hb hm w
  rwa [hr, he] at this
theorem c_lit {a b r : Nat} (ha : a < B) (hb : b < B) (hr : gcdN a b = r) (w : World) : Calls Try.prog 66 #[num a, num b] w fun e' w' =>
    e' = .returned (num r) ∧ Below w.heap.size w w' := by
  have := common_any a b ha hb w
  rwa [hr] at this
end Go.Proofs.Ytklidiambinhkaa
namespace Go.Proofs.Ytklidiambinhkaa
open Go.RowKit
attribute [local irreducible] Calls
theorem m_lit {a b l h : Nat} (ha : a < B) (hb : b < B) (hl : a * b % B = l) (hh : a * b / B = h) (w : World) : Calls Try.prog 79 #[num a, num b] w fun e w' =>
    e = .returned (.tuple #[num l, num h]) ∧ Below w.heap.size w w' := by
  have := mul_any a b ha hb w
  rw [hh, ← num_mod (a * b), hl] at this
  exact this
theorem a_lit {a b s : Nat} {c : Int} (ha : a < B) (hb : b < B) (hs : (a + b) % B = s) (hc : (((a + b) / B : Nat) : Int) = c) (w : World) : Calls Try.prog 63 #[num a, num b] w fun e w' =>
    e = .returned (.tuple #[num s, .int .u64 c]) ∧ Below w.heap.size w w' := by
  have := add_any a b ha hb w
  rw [hc, ← num_mod (a + b), hs] at this
  exact this
theorem xCj {a b : Nat} {c : Int} (ha : a < B) (hb : b < B) (hc : cmpN a b = c) (w : World) : Calls Try.prog 13 #[num a, num b] w fun e w' =>
    e = .returned (.int .i64 c) ∧ Below w.heap.size w w' := by
  have := cmp_any a b ha hb w
  rwa [hc] at this
end Go.Proofs.Ytklidiambinhkaa
namespace Go.Proofs.Ytklidiambinhkaa
open Go.RowKit
section
variable {P : Program} {ops : Array Oper} {B0 : Nat} {w0 : World} {Kp : List (Nat × Obj)} {Q : Exit → Act → World → Prop}
abbrev ptrTo (b : Nat) : Value := .pointer (some ⟨b, 0, none⟩)
structure IsAlloc (P : Program) (o : Oper) (ob : Obj) : Prop where
  guard : o.guard = none
  run : ∀ (a : Act) (w : World), (execOp a.eval o).run P w = .ok (.value (ptrTo w.heap.size)) (w.alloc ob)
theorem isAlloc {o : Oper} {ty : TypeId} {l : List Value} (hg : o.guard = none) (ho : o.op = .alloc ty) (hz : ZeroT P ty l) : IsAlloc P o (.cells l.toArray ty) :=
  ⟨hg, fun a w => by
    obtain ⟨z, h1, h2⟩ := hz.is
    have hzv : (zeroValue ty).run P w = .ok z w := by
      cases hq : P.info? ty with
      | none => simp [hq] at h1
      | some i =>
        have : i.zero = some z := by simpa [hq] using h1
        simp [zeroValue, typeInfo, hq, this]
    have e : (Instr.alloc ty true (.tuple #[])).run P w = .ok (.pointer (some ⟨w.heap.size, 0, none⟩)) (w.alloc (.cells l.toArray ty)) := by
      simp only [Instr.alloc, Sem.run_bind, hzv, Result.andThen_ok, newVar, newRow, h2, newObj]
      rfl
    unfold execOp
    simp only [ho, Sem.run_bind, e, Result.andThen_ok, Sem.run_pure]⟩
def wpAnyI (P : Program) (ops : Array Oper) (B0 : Nat) (w0 : World) (Kp : List (Nat × Obj)) (Q : Exit → Act → World → Prop) : Nat → Array Bool → Act → List (Nat × Obj) → Prop
  | 0, listed, a, L => Region.ready .any ops listed = [] ∧ ∀ w, Rep B0 w0 L w → Q .normal a w
  | f + 1, listed, a, L => (Region.ready .any ops listed = [] → ∀ w, Rep B0 w0 L w → Q .normal a w) ∧ ∀ i ∈ Region.ready .any ops listed, ∃ o, ops[i]? = some o ∧
      ((∃ ob, IsAlloc P o ob ∧ ∀ b, wpAnyI P ops B0 w0 Kp Q f (listed.setIfInBounds i true) (a.put o.dst (ptrTo b)) ((b, ob) :: L)) ∨
       (∃ v L', xBs P ops o v a (Rep B0 w0 L) (Rep B0 w0 L') ∧ (∀ p, p ∈ Kp → p ∈ L') ∧ wpAnyI P ops B0 w0 Kp Q f (listed.setIfInBounds i true) (a.put o.dst v) L'))
theorem wpAny_of_I : ∀ (f : Nat) (listed : Array Bool) (a : Act) (L : List (Nat × Obj)) (w : World), Rep B0 w0 L w → wpAnyI P ops B0 w0 Kp Q f listed a L → wpAny P .any ops Q f listed a w
  | 0, _, _, _, w, hw, h => ⟨h.1, h.2 w hw⟩
  | f + 1, listed, a, L, w, hw, h => ⟨fun h0 => h.1 h0 w hw, fun i hi => by
      obtain ⟨o, ho, ⟨ob, hal, hn⟩ | ⟨v, L', hy, hk, hn⟩⟩ := h.2 i hi
      · unfold Go.wpOp
        simp only [ho]
        rw [if_pos (by simp [Region.wanted, hal.guard])]
        refine .inl ?_
        unfold Oper.wp
        rw [hal.run]
        simp only [Oper.upon]
        exact wpAny_of_I f _ _ _ _ (hw.alloc ob) (hn _)
      · exact hy.wpOp ho hw fun w' hw' => wpAny_of_I f _ _ _ w' hw' hn⟩
theorem headI_first {i : Nat} {oi : Oper} {v : Value} (hi : ops[i]? = some oi) (hs : ∀ (j : Nat) (o : Oper) cs b, ops[j]? = some o → o.op ≠ .select cs b) : ∀ (fuel : Nat) (listed : Array Bool) (a : Act) (L : List (Nat × Obj)),
      (∀ j oj, ops[j]? = some oj → j ≠ i → listed.getD j true = false → (∀ e ∈ oj.after, Region.binds .any e = true → e.on ≠ i) → oi.apart ops oj = true) →
      i ∈ Region.ready .any ops listed → (∀ L', (∀ p, p ∈ Kp → p ∈ L') → xBs P ops oi v a (Rep B0 w0 L') (Rep B0 w0 L')) → (∀ p, p ∈ Kp → p ∈ L) →
      wpAnyI P ops B0 w0 Kp Q fuel (listed.setIfInBounds i true) (a.put oi.dst v) L → wpAnyI P ops B0 w0 Kp Q (fuel + 1) listed a L := by
  intro fuel
  induction fuel with
  | zero =>
    intro listed a L _ hr hy hL H
    refine ⟨fun h0 => (by rw [h0] at hr; cases hr), fun j hj => ?_⟩
    by_cases hji : j = i
    · subst hji
      exact ⟨oi, hi, .inr ⟨v, L, hy L hL, hL, H⟩⟩
    · have := ready_mono hj hji
      rw [H.1] at this
      cases this
  | succ fuel ih =>
    intro listed a L hfree hr hy hL H
    refine ⟨fun h0 => (by rw [h0] at hr; cases hr), fun j hj => ?_⟩
    by_cases hji : j = i
    · subst hji
      exact ⟨oi, hi, .inr ⟨v, L, hy L hL, hL, H⟩⟩
    · obtain ⟨oj, hoj, hH⟩ := H.2 j (ready_mono hj hji)
      obtain ⟨hjun, oj', hoj', hall⟩ := mem_ready.1 hj
      obtain rfl : oj = oj' := Option.some.inj (hoj.symm.trans hoj')
      have hnot : ∀ e ∈ oj.after, Region.binds .any e = true → e.on ≠ i := fun e he hb heq => by
        have h1 := hall e he hb
        have h0 := (mem_ready.1 hr).1
        rw [heq] at h1
        rcases Nat.lt_or_ge i listed.size with h' | h'
        · simp [h'] at h0 h1; rw [h0] at h1; cases h1
        · simp [Array.getElem?_eq_none h'] at h1
      obtain ⟨p1, p2, p3⟩ := Oper.apart_spec (hfree j oj hoj hji hjun hnot)
      have next : ∀ u L', (∀ p, p ∈ Kp → p ∈ L') → wpAnyI P ops B0 w0 Kp Q fuel ((listed.setIfInBounds i true).setIfInBounds j true) ((a.put oi.dst v).put oj.dst u) L' → wpAnyI P ops B0 w0 Kp Q (fuel + 1) (listed.setIfInBounds j true) (a.put oj.dst u) L' := fun u L' hL' Hj => by
        refine ih (listed.setIfInBounds j true) (a.put oj.dst u) L' (fun k ok hk hki hun hno => ?_) (ready_mono hr (Ne.symm hji)) (fun L'' hL'' => (xBs.of_put (fun cs b => hs i oi cs b hi) p3).2 (hy L'' hL'')) hL' ?_
        · refine hfree k ok hk hki ?_ hno
          by_cases hjk : j = k
          · subst hjk; exact hjun
          · rw [getD_set_ne true hjk] at hun; exact hun
        · rw [Array.setIfInBounds_comm _ _ hji, ← Act.put_comm a v u p2]
          exact Hj
      rcases hH with ⟨ob, hal, hn⟩ | ⟨u, L', hyj, hk, hn⟩
      · exact ⟨oj, hoj, .inl ⟨ob, hal, fun b => next _ _ (fun p hp => .tail _ (hL p hp)) (hn b)⟩⟩
      · exact ⟨oj, hoj, .inr ⟨u, L', (xBs.of_put (fun cs b => hs j oj cs b hoj) p1).1 hyj, hk, next _ _ hk hn⟩⟩
theorem headI_all (hsel : Region.noSelect ops = true) {L : List (Nat × Obj)} {K : Act → Prop} {n : Nat} (hL : ∀ p, p ∈ Kp → p ∈ L) : ∀ (ord : List (Nat × Bool)) (listed : Array Bool) (a : Act), (∀ p ∈ ord, p.2 = true) → ordB ops (ord.map (·.1)) listed = true → headW P ops (keeps B0 w0 Kp) (Rep B0 w0 L) K ord a →
    (∀ a', K a' → wpAnyI P ops B0 w0 Kp Q n (xCi (ord.map (·.1)) listed) a' L) → wpAnyI P ops B0 w0 Kp Q (ord.length + n) listed a L
  | [], listed, a, _, _, h, hn => by rw [List.length_nil, Nat.zero_add]; exact hn a h
  | p :: r, listed, a, hf, hB, h, hn => by
    obtain ⟨i, b⟩ := p
    obtain rfl : b = true := hf (i, b) (.head _)
    simp only [List.map_cons, ordB, Bool.and_eq_true] at hB
    obtain ⟨⟨hr, hfr⟩, hB'⟩ := hB
    obtain ⟨o, v, ho, hy, _, hK⟩ := h
    have hr' : i ∈ Region.ready .any ops listed := by simpa using hr
    rw [List.length_cons, show r.length + 1 + n = (r.length + n) + 1 by omega]
    exact headI_first ho (Region.noSelect_spec hsel) (r.length + n) listed a L (Region.free_spec ho hfr) hr' (fun L' hL' => hy rfl _ ⟨L', rfl, hL'⟩) hL
      (headI_all hsel hL r _ _ (fun q hq => hf q (.tail _ hq)) hB' hK hn)
theorem tailI : ∀ (r : List Nat) (listed : Array Bool) (a : Act) (L : List (Nat × Obj)), (∀ t ∈ r, t < ops.size) → seqB ops r listed = true → tailM P ops (keeps B0 w0 Kp) Q (r.filterMap (ops[·]?)) (Rep B0 w0 L) a → wpAnyI P ops B0 w0 Kp Q r.length listed a L
  | [], listed, a, L, _, hB, h => ⟨by simpa [seqB] using hB, h⟩
  | t :: r, listed, a, L, hlt, hB, h => by
    obtain ⟨o, ho⟩ : ∃ o, ops[t]? = some o := ⟨_, Array.getElem?_eq_getElem (hlt t (.head _))⟩
    rw [List.filterMap_cons_some ho] at h
    obtain ⟨v, C', hy, ⟨L', rfl, hL'⟩, hr⟩ := h
    simp only [seqB, Bool.and_eq_true, decide_eq_true_eq] at hB
    rw [List.length_cons]
    refine ⟨fun h0 => (by rw [h0] at hB; cases hB.1), fun i hi => ?_⟩
    rw [hB.1] at hi
    obtain rfl : i = t := by simpa using hi
    exact ⟨o, ho, .inr ⟨v, L', hy, hL', tailI r _ _ L' (fun s hs => hlt s (.tail _ hs)) hB.2 hr⟩⟩
theorem Rep.swap {p q : Nat × Obj} {L : List (Nat × Obj)} : Rep B0 w0 (p :: q :: L) = Rep B0 w0 (q :: p :: L) := by
  have one : ∀ (p q : Nat × Obj) w, Rep B0 w0 (p :: q :: L) w → Rep B0 w0 (q :: p :: L) w := fun p q w h =>
    ⟨h.below, h.le, fun r hr => h.own r (by
      rcases List.mem_cons.1 hr with rfl | hr
      · exact .tail _ (.head _)
      · rcases List.mem_cons.1 hr with rfl | hr
        · exact .head _
        · exact .tail _ (.tail _ hr)), by
      have := h.uniq
      simp only [List.map_cons, List.nodup_cons, List.mem_cons, not_or] at this ⊢
      exact ⟨⟨fun e => this.1.1 e.symm, this.2.1⟩, this.1.2, this.2.2⟩⟩
  funext w
  exact propext ⟨one p q w, one q p w⟩
def alloc1OK (ops : Array Oper) (ord : List (Nat × Bool)) (i : Nat) (r : List Nat) : Bool :=
  let x := xCi (ord.map (·.1)) (Array.replicate ops.size false)
  Region.noSelect ops && ordB ops (ord.map (·.1)) (Array.replicate ops.size false) && ord.all (·.2) && decide (Region.ready .any ops x = [i]) && seqB ops r (x.setIfInBounds i true) && r.all (fun t => decide (t < ops.size))
theorem wp_region_alloc1 {id : Nat} {w : World} {l : List Oper} {L : List (Nat × Obj)} {a : Act} (hR : Rep B0 w0 L w) (ts : List Nat) (i : Nat) (di : Tmp) (oi : Oper) (zi : Obj) (r : List Nat) (hm : P.follows .mixedOrders = true) (hB : alloc1OK l.toArray (xBv 0 ts) i r = true) (htl : tlFrom 0 ts = i :: r)
    (hlen : ts.length = l.length) (hlen2 : (xBv 0 ts).length + (r.length + 1) = l.length) (hoi : l.toArray[i]? = some oi) (hdi : oi.dst = some di) (hai : IsAlloc P oi zi)
    (h : ∀ K : List Oper → Act → Prop, (∀ r' a', (∀ b1, tailM P l.toArray (keeps B0 w0 L) Q r' (Rep B0 w0 ((b1, zi) :: L)) (a'.put (some di) (ptrTo b1))) → K (oi :: r') a') → xCf P l.toArray (keeps B0 w0 L) (Rep B0 w0 L) K ts l [] a) : (Code.region id l.toArray true).wp P Q a w := by
  rw [← hdi] at h
  simp only [alloc1OK, Bool.and_eq_true, decide_eq_true_eq] at hB
  obtain ⟨⟨⟨⟨⟨h1, h2⟩, h3⟩, h4⟩, h5⟩, h6⟩ := hB
  refine wp_region_any hm ?_
  have hlt : ∀ t ∈ r, t < l.toArray.size := fun t ht => by simpa using List.all_eq_true.1 h6 t ht
  have hH := h (fun tl a' => ∃ r', tl = oi :: r' ∧ ∀ b1, tailM P l.toArray (keeps B0 w0 L) Q r' (Rep B0 w0 ((b1, zi) :: L)) (a'.put oi.dst (ptrTo b1))) (fun r' a' h' => ⟨r', rfl, h'⟩)
  have hW := xDa (P := P) (ops := l.toArray) (I := keeps B0 w0 L) (C := Rep B0 w0 L) (K := fun a' => ∀ b1, tailM P l.toArray (keeps B0 w0 L) Q (r.filterMap (l.toArray[·]?)) (Rep B0 w0 ((b1, zi) :: L)) (a'.put oi.dst (ptrTo b1))) ts l [] 0 a hlen (fun j => by simp) (fun a' ha' => by
    obtain ⟨r', e, h'⟩ := ha'
    rw [htl, List.nil_append, List.filterMap_cons_some hoi] at e
    obtain rfl := (List.cons.inj e).2
    exact h') hH
  have key := headI_all (Q := Q) (n := r.length + 1) h1 (fun p hp => hp) (xBv 0 ts) (Array.replicate l.toArray.size false) a (fun p hp => by simpa using List.all_eq_true.1 h3 p hp) h2 hW (fun a' ha' => by
    refine ⟨fun h0 => (by rw [h0] at h4; cases h4), fun k hk => ?_⟩
    rw [h4] at hk
    obtain rfl : k = i := by simpa using hk
    exact ⟨oi, hoi, .inl ⟨zi, hai, fun b => tailI r _ _ _ hlt h5 (ha' b)⟩⟩)
  have := wpAny_of_I _ _ _ _ _ hR.drew key
  rw [hlen2] at this
  simpa using this
end
section
variable {P : Program} {ops : Array Oper} {B0 : Nat} {w0 : World} {ts : List Nat} {r acc : List Oper} {o : Oper} {a : Act} {K : List Oper → Act → Prop} {C : World → Prop} {Kp : List (Nat × Obj)}
theorem hd_callI (hw : Region.wanted o (yielded ops a.tmps) = true) {f : FuncId} {xs : List Operand} {us : Array TypeId} (hop : o.op = .call { callee := .value (.func f), args := xs.toArray, argTypes := us }) {vs : List Value} {v : Value} (hx' : evL a xs = some vs)
    (hent : ∀ w, (callFunc f vs.toArray).run P w = .ok (.enter f vs.toArray) w) (hq : ∀ w, Calls P f vs.toArray w fun e w' => e = .returned v ∧ Below w.heap.size w w')
    {a' : Act} (ha : a.put o.dst v = a') (h : xCf P ops (keeps B0 w0 Kp) C K ts r acc a') : xCf P ops (keeps B0 w0 Kp) C K (1 :: ts) (o :: r) acc a :=
  hd_keep hw (fun L w hL hR => by
    have e : (execOp a.eval o).run P w = .ok (.enter f vs.toArray) w := by
      have hx := xDd hx'
      unfold execOp
      simp only [hop, resolve, Deferred.ofValue, Act.eval, Sem.run_bind, Sem.run_pure, Result.andThen_ok, hx]
      have := hent w
      simpa [invoke] using this
    rw [e]
    exact (hq w).mono fun e w' ⟨he, hb⟩ => ⟨he, hR.call hb⟩) ha h
theorem hd_keepAll (hw : Region.wanted o (yielded ops a.tmps) = true) {ty : TypeId} {x : Operand} (hop : o.op = .load ty x) {n : Nat} {b : Nat} (hx : a.eval x = .pointer (some ⟨b, 0, none⟩)) (hT : RowT P ty n) {l : List Value} {t : TypeId}
    (hm : (b, Obj.cells l.toArray t) ∈ Kp) (hn : l.length = n) {a' : Act} (ha : a.put o.dst (.agg l.toArray) = a') (h : xCf P ops (keeps B0 w0 Kp) C K ts r acc a') : xCf P ops (keeps B0 w0 Kp) C K (1 :: ts) (o :: r) acc a :=
  xAq hw hop hx hT hm (by simp [← hn]) hn ha h
end
end Go.Proofs.Ytklidiambinhkaa
