/- Regions that draw their order and make slices whose address is used within the region, of values reckoned there: step by step over what may come up. (As XNews; what is made may hang on slots.) -/
import Derived.Test.YtdmdkdodfngjiaaOrd
set_option linter.unusedSimpArgs false
set_option linter.unusedVariables false
namespace Go.Proofs.Ytdmdkdodfngjiaa
open Go.RowKit
section
variable {P : Program} {ops : Array Oper} {B0 : Nat} {w0 : World} {tl : List Nat} {Kp : List (Nat × Obj)} {Q : Exit → Act → World → Prop}

/-- The operation makes a block that holds ob, and tells where. -/
structure IsNew (P : Program) (o : Oper) (a : Act) (ob : Obj) (mk : Nat → Value) : Prop where
  guard : o.guard = none
  run : ∀ (w : World), (execOp a.eval o).run P w = .ok (.value (mk w.heap.size)) (w.alloc ob)
theorem IsNew.of_put {o : Oper} {a : Act} {ob : Obj} {mk : Nat → Value} {u : Value} {dst : Option Tmp} (hs : ∀ cs b, o.op ≠ .select cs b) (h : ∀ d, dst = some d → d ∉ o.looksAt ops) (hn : IsNew P o (a.put dst u) ob mk) : IsNew P o a ob mk :=
  ⟨hn.guard, fun w => by rw [← execOp_put o hs a dst u h]; exact hn.run w⟩

def wpAnyN (P : Program) (ops : Array Oper) (B0 : Nat) (w0 : World) (tl : List Nat) (Kp : List (Nat × Obj)) (Q : Exit → Act → World → Prop) : Nat → Array Bool → Act → List (Nat × Obj) → Prop
  | 0, listed, a, L => Region.ready .any ops listed = [] ∧ ∀ w, Rep B0 w0 L w → Q .normal a w
  | f + 1, listed, a, L => (Region.ready .any ops listed = [] → ∀ w, Rep B0 w0 L w → Q .normal a w) ∧ ∀ i ∈ Region.ready .any ops listed, ∃ o, ops[i]? = some o ∧
      ((∃ ob mk, IsNew P o a ob mk ∧ ∀ b, wpAnyN P ops B0 w0 tl Kp Q f (listed.setIfInBounds i true) (a.put o.dst (mk b)) ((b, ob) :: L)) ∨
       (∃ v L', YieldsK P ops o v a (Rep B0 w0 L) (Rep B0 w0 L') ∧ (i ∉ tl → ∀ p, p ∈ Kp → p ∈ L') ∧ wpAnyN P ops B0 w0 tl Kp Q f (listed.setIfInBounds i true) (a.put o.dst v) L'))

theorem wpAny_of_N : ∀ (f : Nat) (listed : Array Bool) (a : Act) (L : List (Nat × Obj)) (w : World), Rep B0 w0 L w → wpAnyN P ops B0 w0 tl Kp Q f listed a L → wpAny P .any ops Q f listed a w
  | 0, _, _, _, w, hw, h => ⟨h.1, h.2 w hw⟩
  | f + 1, listed, a, L, w, hw, h => ⟨fun h0 => h.1 h0 w hw, fun i hi => by
      obtain ⟨o, ho, ⟨ob, mk, hal, hn⟩ | ⟨v, L', hy, hk, hn⟩⟩ := h.2 i hi
      · unfold Go.wpOp
        simp only [ho]
        rw [if_pos (by simp [Region.wanted, hal.guard])]
        refine .inl ?_
        unfold Oper.wp
        rw [hal.run]
        simp only [Oper.upon]
        exact wpAny_of_N f _ _ _ _ (hw.alloc ob) (hn _)
      · exact hy.wpOp ho hw fun w' hw' => wpAny_of_N f _ _ _ w' hw' hn⟩

theorem wpAnyN_mono {Kp' : List (Nat × Obj)} (hK : ∀ p, p ∈ Kp → p ∈ Kp') : ∀ (f : Nat) (listed : Array Bool) (a : Act) (L : List (Nat × Obj)), wpAnyN P ops B0 w0 tl Kp' Q f listed a L → wpAnyN P ops B0 w0 tl Kp Q f listed a L
  | 0, _, _, _, h => h
  | f + 1, listed, a, L, h => ⟨h.1, fun i hi => by
      obtain ⟨o, ho, ⟨ob, mk, hal, hn⟩ | ⟨v, L', hy, hk, hn⟩⟩ := h.2 i hi
      · exact ⟨o, ho, .inl ⟨ob, mk, hal, fun b => wpAnyN_mono hK f _ _ _ (hn b)⟩⟩
      · exact ⟨o, ho, .inr ⟨v, L', hy, fun ht p hp => hk ht p (hK p hp), wpAnyN_mono hK f _ _ _ hn⟩⟩⟩

theorem headN_first {i : Nat} {oi : Oper} {v : Value} (hi : ops[i]? = some oi) (hs : ∀ (j : Nat) (o : Oper) cs b, ops[j]? = some o → o.op ≠ .select cs b) (hit : i ∉ tl) (htl : ∀ t ∈ tl, waitsB ops t i = true) : ∀ (fuel : Nat) (listed : Array Bool) (a : Act) (L : List (Nat × Obj)),
      (∀ j oj, ops[j]? = some oj → j ≠ i → listed.getD j true = false → (∀ e ∈ oj.after, Region.binds .any e = true → e.on ≠ i) → oi.apart ops oj = true) →
      i ∈ Region.ready .any ops listed → (∀ L', (∀ p, p ∈ Kp → p ∈ L') → YieldsK P ops oi v a (Rep B0 w0 L') (Rep B0 w0 L')) → (∀ p, p ∈ Kp → p ∈ L) →
      wpAnyN P ops B0 w0 tl Kp Q fuel (listed.setIfInBounds i true) (a.put oi.dst v) L → wpAnyN P ops B0 w0 tl Kp Q (fuel + 1) listed a L := by
  intro fuel
  induction fuel with
  | zero =>
    intro listed a L _ hr hy hL H
    refine ⟨fun h0 => (by rw [h0] at hr; cases hr), fun j hj => ?_⟩
    by_cases hji : j = i
    · subst hji
      exact ⟨oi, hi, .inr ⟨v, L, hy L hL, fun _ => hL, H⟩⟩
    · have := ready_mono hj hji
      rw [H.1] at this
      cases this
  | succ fuel ih =>
    intro listed a L hfree hr hy hL H
    refine ⟨fun h0 => (by rw [h0] at hr; cases hr), fun j hj => ?_⟩
    by_cases hji : j = i
    · subst hji
      exact ⟨oi, hi, .inr ⟨v, L, hy L hL, fun _ => hL, H⟩⟩
    · obtain ⟨oj, hoj, hH⟩ := H.2 j (ready_mono hj hji)
      obtain ⟨hjun, oj', hoj', hall⟩ := mem_ready.1 hj
      obtain rfl : oj = oj' := Option.some.inj (hoj.symm.trans hoj')
      have hnot : ∀ e ∈ oj.after, Region.binds .any e = true → e.on ≠ i := fun e he hb heq => by
        have h1 := hall e he hb
        have h0 := (mem_ready.1 hr).1
        rw [heq] at h1
        rcases Nat.lt_or_ge i listed.size with h' | h'
        · simp [h'] at h0 h1; rw [h0] at h1; cases h1
        · simp [Array.getElem?_eq_none h'] at h1
      have hjt : j ∉ tl := fun ht => by
        obtain ⟨oj2, hoj2, e, he, hb, heq⟩ := waitsB_spec (htl j ht)
        obtain rfl : oj = oj2 := Option.some.inj (hoj.symm.trans hoj2)
        exact hnot e he hb heq
      obtain ⟨p1, p2, p3⟩ := Oper.apart_spec (hfree j oj hoj hji hjun hnot)
      have next : ∀ u L', (∀ p, p ∈ Kp → p ∈ L') → wpAnyN P ops B0 w0 tl Kp Q fuel ((listed.setIfInBounds i true).setIfInBounds j true) ((a.put oi.dst v).put oj.dst u) L' → wpAnyN P ops B0 w0 tl Kp Q (fuel + 1) (listed.setIfInBounds j true) (a.put oj.dst u) L' := fun u L' hL' Hj => by
        refine ih (listed.setIfInBounds j true) (a.put oj.dst u) L' (fun k ok hk hki hun hno => ?_) (ready_mono hr (Ne.symm hji)) (fun L'' hL'' => (YieldsK.of_put (fun cs b => hs i oi cs b hi) p3).2 (hy L'' hL'')) hL' ?_
        · refine hfree k ok hk hki ?_ hno
          by_cases hjk : j = k
          · subst hjk; exact hjun
          · rw [getD_set_ne true hjk] at hun; exact hun
        · rw [Array.setIfInBounds_comm _ _ hji, ← Act.put_comm a v u p2]
          exact Hj
      rcases hH with ⟨ob, mk, hal, hn⟩ | ⟨u, L', hyj, hk, hn⟩
      · exact ⟨oj, hoj, .inl ⟨ob, mk, IsNew.of_put (fun cs b => hs j oj cs b hoj) p1 hal, fun b => next _ _ (fun p hp => .tail _ (hL p hp)) (hn b)⟩⟩
      · exact ⟨oj, hoj, .inr ⟨u, L', (YieldsK.of_put (fun cs b => hs j oj cs b hoj) p1).1 hyj, hk, next _ _ (hk hjt) hn⟩⟩

/-- What is reckoned of some operations that are taken next. -/
def headsOK (ops : Array Oper) (tl : List Nat) (ord : List (Nat × Bool)) (listed : Array Bool) : Bool := Region.noSelect ops && ordB ops (ord.map (·.1)) listed && ord.all fun i => i.2 && (!tl.contains i.1 && tl.all fun t => waitsB ops t i.1)
theorem heads_all {L : List (Nat × Obj)} (hs : ∀ (j : Nat) (o : Oper) cs b, ops[j]? = some o → o.op ≠ .select cs b) (hL : ∀ p, p ∈ Kp → p ∈ L) {K : Act → Prop} {n : Nat} : ∀ (ord : List (Nat × Bool)) (listed : Array Bool) (a : Act), ordB ops (ord.map (·.1)) listed = true → (ord.all fun i => i.2 && (!tl.contains i.1 && tl.all fun t => waitsB ops t i.1)) = true →
    headW P ops (keeps B0 w0 Kp) (Rep B0 w0 L) K ord a → (∀ a', K a' → wpAnyN P ops B0 w0 tl Kp Q n (setAll (ord.map (·.1)) listed) a' L) → wpAnyN P ops B0 w0 tl Kp Q (ord.length + n) listed a L
  | [], listed, a, _, _, h, hn => by rw [List.length_nil, Nat.zero_add]; exact hn a h
  | (i, b) :: r, listed, a, hB, hT, h, hn => by
    simp only [List.map_cons, ordB, Bool.and_eq_true] at hB
    obtain ⟨⟨hr, hfr⟩, hB'⟩ := hB
    simp only [List.all_cons, Bool.and_eq_true] at hT
    obtain ⟨⟨rfl, hT1, hT2⟩, hT'⟩ := hT
    obtain ⟨o, v, ho, hy, _, hK⟩ := h
    have hr' : i ∈ Region.ready .any ops listed := by simpa using hr
    rw [List.length_cons, show r.length + 1 + n = (r.length + n) + 1 by omega]
    exact headN_first ho hs (by simpa using hT1) (fun t ht => List.all_eq_true.1 hT2 t ht) (r.length + n) listed a L (Region.free_spec ho hfr) hr' (fun L' hL' => hy rfl _ ⟨L', rfl, hL'⟩) hL
      (heads_all hs hL r _ _ hB' hT' hK hn)
/-- Some operations are taken next (marks: 1 now, 2 not now). -/
theorem newsHeads (Kp' : List (Nat × Obj)) {l : List Oper} {L : List (Nat × Obj)} {listed : Array Bool} {a : Act} (ts : List Nat) (n : Nat) {f : Nat} (hf : f = (ordFrom 0 ts).length + n) (hK : ∀ p, p ∈ Kp → p ∈ Kp') (hL : ∀ p, p ∈ Kp' → p ∈ L) (hlen : ts.length = l.length) (hB : headsOK l.toArray tl (ordFrom 0 ts) listed = true)
    (h : ∀ K : List Oper → Act → Prop, (∀ acc a', wpAnyN P l.toArray B0 w0 tl Kp' Q n (setAll ((ordFrom 0 ts).map (·.1)) listed) a' L → K acc a') → headM P l.toArray (keeps B0 w0 Kp') (Rep B0 w0 L) K ts l [] a) : wpAnyN P l.toArray B0 w0 tl Kp Q f listed a L := by
  subst hf
  simp only [headsOK, Bool.and_eq_true] at hB
  obtain ⟨⟨h1, h2⟩, h3⟩ := hB
  have hW := headW_of_M (P := P) (ops := l.toArray) (I := keeps B0 w0 Kp') (C := Rep B0 w0 L) (K := fun a' => wpAnyN P l.toArray B0 w0 tl Kp' Q n (setAll ((ordFrom 0 ts).map (·.1)) listed) a' L) ts l [] 0 a hlen (fun j => by simp) (fun a' ha' => ha') (h (fun _ a' => wpAnyN P l.toArray B0 w0 tl Kp' Q n (setAll ((ordFrom 0 ts).map (·.1)) listed) a' L) (fun _ _ h => h))
  exact wpAnyN_mono hK _ _ _ _ (heads_all (Region.noSelect_spec h1) hL (ordFrom 0 ts) listed a h2 h3 hW (fun _ h => h))
/-- A block is made next. -/
theorem news_one {L : List (Nat × Obj)} {listed : Array Bool} {a : Act} (i : Nat) (di : Tmp) (oi : Oper) {ob : Obj} {mk : Nat → Value} {n : Nat} (hr : decide (Region.ready .any ops listed = [i]) = true) (hoi : ops[i]? = some oi) (hdi : oi.dst = some di) (hai : IsNew P oi a ob mk)
    (h : ∀ b, wpAnyN P ops B0 w0 tl Kp Q n (listed.setIfInBounds i true) (a.put (some di) (mk b)) ((b, ob) :: L)) : wpAnyN P ops B0 w0 tl Kp Q (n + 1) listed a L := by
  rw [← hdi] at h
  have hr := of_decide_eq_true hr
  refine ⟨fun h0 => (by rw [h0] at hr; cases hr), fun k hk => ?_⟩
  rw [hr] at hk
  obtain rfl : k = i := by simpa using hk
  exact ⟨oi, hoi, .inl ⟨ob, mk, hai, h⟩⟩
/-- One of two blocks is made next. -/
theorem news_two {L : List (Nat × Obj)} {listed : Array Bool} {a : Act} (i j : Nat) (di dj : Tmp) (oi oj : Oper) {ob oc : Obj} {mk nk : Nat → Value} {n : Nat} (hr : decide (Region.ready .any ops listed = [i, j]) = true) (hoi : ops[i]? = some oi) (hoj : ops[j]? = some oj) (hdi : oi.dst = some di) (hdj : oj.dst = some dj) (hai : IsNew P oi a ob mk) (haj : IsNew P oj a oc nk)
    (h : ∀ b, wpAnyN P ops B0 w0 tl Kp Q n (listed.setIfInBounds i true) (a.put (some di) (mk b)) ((b, ob) :: L)) (h' : ∀ b, wpAnyN P ops B0 w0 tl Kp Q n (listed.setIfInBounds j true) (a.put (some dj) (nk b)) ((b, oc) :: L)) : wpAnyN P ops B0 w0 tl Kp Q (n + 1) listed a L := by
  rw [← hdi] at h
  rw [← hdj] at h'
  have hr := of_decide_eq_true hr
  refine ⟨fun h0 => (by rw [h0] at hr; cases hr), fun k hk => ?_⟩
  rw [hr] at hk
  have hk' : k = i ∨ k = j := by simpa using hk
  rcases hk' with rfl | rfl
  · exact ⟨oi, hoi, .inl ⟨ob, mk, hai, h⟩⟩
  · exact ⟨oj, hoj, .inl ⟨oc, nk, haj, h'⟩⟩
/-- One of three blocks is made next. -/
theorem news_three {L : List (Nat × Obj)} {listed : Array Bool} {a : Act} (i j k : Nat) (di dj dk : Tmp) (oi oj ok : Oper) {ob oc od : Obj} {mk nk lk : Nat → Value} {n : Nat} (hr : decide (Region.ready .any ops listed = [i, j, k]) = true) (hoi : ops[i]? = some oi) (hoj : ops[j]? = some oj) (hok : ops[k]? = some ok)
    (hdi : oi.dst = some di) (hdj : oj.dst = some dj) (hdk : ok.dst = some dk) (hai : IsNew P oi a ob mk) (haj : IsNew P oj a oc nk) (hak : IsNew P ok a od lk)
    (h : ∀ b, wpAnyN P ops B0 w0 tl Kp Q n (listed.setIfInBounds i true) (a.put (some di) (mk b)) ((b, ob) :: L)) (h' : ∀ b, wpAnyN P ops B0 w0 tl Kp Q n (listed.setIfInBounds j true) (a.put (some dj) (nk b)) ((b, oc) :: L))
    (h'' : ∀ b, wpAnyN P ops B0 w0 tl Kp Q n (listed.setIfInBounds k true) (a.put (some dk) (lk b)) ((b, od) :: L)) : wpAnyN P ops B0 w0 tl Kp Q (n + 1) listed a L := by
  rw [← hdi] at h
  rw [← hdj] at h'
  rw [← hdk] at h''
  have hr := of_decide_eq_true hr
  refine ⟨fun h0 => (by rw [h0] at hr; cases hr), fun m hm => ?_⟩
  rw [hr] at hm
  have hm' : m = i ∨ m = j ∨ m = k := by simpa using hm
  rcases hm' with rfl | rfl | rfl
  · exact ⟨oi, hoi, .inl ⟨ob, mk, hai, h⟩⟩
  · exact ⟨oj, hoj, .inl ⟨oc, nk, haj, h'⟩⟩
  · exact ⟨ok, hok, .inl ⟨od, lk, hak, h''⟩⟩
/-- The tail: two steps. -/
theorem news_tail2 {L : List (Nat × Obj)} {listed : Array Bool} {a : Act} (s t : Nat) {p o : Oper} (hp : ops[s]? = some p) (ho : ops[t]? = some o) (hB : seqB ops [s, t] listed = true) (h : tailM P ops (keeps B0 w0 Kp) Q [p, o] (Rep B0 w0 L) a) : wpAnyN P ops B0 w0 tl Kp Q 2 listed a L := by
  obtain ⟨v, C', hy, ⟨L', rfl, hk⟩, v2, C2, hy2, ⟨L2, rfl, hk2⟩, hr⟩ := h
  simp only [seqB, Bool.and_eq_true, decide_eq_true_eq] at hB
  refine ⟨fun h0 => (by rw [h0] at hB; cases hB.1), fun i hi => ?_⟩
  rw [hB.1] at hi
  obtain rfl : i = s := by simpa using hi
  refine ⟨p, hp, .inr ⟨v, L', hy, fun _ => hk, ?_⟩⟩
  refine ⟨fun h0 => (by rw [h0] at hB; cases hB.2.1), fun j hj => ?_⟩
  rw [hB.2.1] at hj
  obtain rfl : j = t := by simpa using hj
  exact ⟨o, ho, .inr ⟨v2, L2, hy2, fun _ => hk2, by simpa using hB.2.2, hr⟩⟩
theorem sub_nil {L : List (Nat × Obj)} : ∀ p, p ∈ ([] : List (Nat × Obj)) → p ∈ L := fun _ h => nomatch h
theorem sub_cons {x : Nat × Obj} {l L : List (Nat × Obj)} (h : x ∈ L) (hs : ∀ p, p ∈ l → p ∈ L) : ∀ p, p ∈ x :: l → p ∈ L := fun p hp => by
  rcases List.mem_cons.1 hp with rfl | hp
  · exact h
  · exact hs p hp
/-- The tail. -/
theorem news_tail {L : List (Nat × Obj)} {listed : Array Bool} {a : Act} (t : Nat) {o : Oper} (ho : ops[t]? = some o) (hB : seqB ops [t] listed = true) (htl : tl = [t]) (h : tailM P ops (keeps B0 w0 []) Q [o] (Rep B0 w0 L) a) : wpAnyN P ops B0 w0 tl Kp Q 1 listed a L := by
  obtain ⟨v, C', hy, ⟨L', rfl, hL'⟩, hr⟩ := h
  simp only [seqB, Bool.and_eq_true, decide_eq_true_eq] at hB
  refine ⟨fun h0 => (by rw [h0] at hB; cases hB.1), fun i hi => ?_⟩
  rw [hB.1] at hi
  obtain rfl : i = t := by simpa using hi
  subst htl
  exact ⟨o, ho, .inr ⟨v, L', hy, fun ht => absurd (List.mem_singleton.2 rfl) ht, by simpa using hB.2, hr⟩⟩
theorem wp_region_news {id : Nat} {w : World} {l : List Oper} {L : List (Nat × Obj)} {a : Act} (hR : Rep B0 w0 L w) (tl : List Nat) (n : Nat) (hm : P.follows .mixedOrders = true) (hn : l.length = n)
    (h : wpAnyN P l.toArray B0 w0 tl [] Q n (Array.replicate n false) a L) : (Code.region id l.toArray true).wp P Q a w := by
  subst hn
  refine wp_region_any hm ?_
  have := wpAny_of_N _ _ _ _ _ hR.drew h
  simpa using this
/-- At the list of a plain region's operations. -/
theorem wpList_new {rest : List Oper} {o : Oper} {a : Act} {w : World} {L : List (Nat × Obj)} (hR : Rep B0 w0 L w) {ob : Obj} {mk : Nat → Value} (hn : IsNew P o a ob mk) (h : ∀ b w', Rep B0 w0 ((b, ob) :: L) w' → wpList P ops Q rest (a.put o.dst (mk b)) w') : wpList P ops Q (o :: rest) a w :=
  wpList_plain hn.guard fun _ hK => by
    unfold Oper.wp
    rw [hn.run]
    exact hK _ _ (h _ _ (hR.alloc _))
/-- A call that reads kept blocks. -/
theorem hd_callK {ts : List Nat} {r acc : List Oper} {o : Oper} {a : Act} {K : List Oper → Act → Prop} {C : World → Prop} (hw : Region.wanted o (yielded ops a.tmps) = true) {f : FuncId} {xs : List Operand} {us : Array TypeId} (hop : o.op = .call { callee := .value (.func f), args := xs.toArray, argTypes := us }) {vs : List Value} {v : Value} (hx' : evL a xs = some vs)
    (hent : ∀ w, (callFunc f vs.toArray).run P w = .ok (.enter f vs.toArray) w) (hq : ∀ L w, (∀ p, p ∈ Kp → p ∈ L) → Rep B0 w0 L w → Calls P f vs.toArray w fun e w' => e = .returned v ∧ Rep B0 w0 L w')
    {a' : Act} (ha : a.put o.dst v = a') (h : headM P ops (keeps B0 w0 Kp) C K ts r acc a') : headM P ops (keeps B0 w0 Kp) C K (1 :: ts) (o :: r) acc a :=
  hd_keep hw (fun L w hL hR => by
    have e : (execOp a.eval o).run P w = .ok (.enter f vs.toArray) w := by
      have hx := evL_eval hx'
      unfold execOp
      simp only [hop, resolve, Deferred.ofValue, Act.eval, Sem.run_bind, Sem.run_pure, Result.andThen_ok, hx]
      have := hent w
      simpa [invoke] using this
    rw [e]
    exact (hq L w hL hR).mono fun e w' ⟨he, hb⟩ => ⟨he, hb⟩) ha h
end
end Go.Proofs.Ytdmdkdodfngjiaa
