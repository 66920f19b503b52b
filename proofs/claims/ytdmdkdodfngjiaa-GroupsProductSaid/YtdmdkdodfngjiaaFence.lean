/- A region inside a fence that draws its order: what only reads the world that it stands in is taken in the text's order; the rest (a call, say) comes behind it. No condition; nothing of the program is named here. -/
import Derived.OrdersIn
import Derived.RegionIn
import Derived.Test.YtdmdkdodfngjiaaOrd
set_option linter.unusedSimpArgs false
set_option linter.unusedVariables false
namespace Go.Proofs.Ytdmdkdodfngjiaa
open Go.RowKit
section
variable {F : Fence} {n : Nat} {P : Program} {ops : Array Oper} {Q : Exit → Act → World → Prop} {w : World} {tl : List Nat}

/-- At this world the operation comes to v; the world stays; it is about no call. -/
structure ReadsAt (P : Program) (ops : Array Oper) (w : World) (o : Oper) (v : Value) (a : Act) : Prop where
  wanted : Region.wanted o (yielded ops a.tmps) = true
  about : o.about P w a.eval = none
  run : (execOp a.eval o).run P w = .ok (.value v) w
theorem ReadsAt.of_put {o : Oper} {v u : Value} {a : Act} {dst : Option Tmp} (hs : ∀ cs b, o.op ≠ .select cs b) (h : ∀ d, dst = some d → d ∉ o.looksAt ops) : ReadsAt P ops w o v (a.put dst u) ↔ ReadsAt P ops w o v a := by
  constructor
  · rintro ⟨h1, h2, h3⟩
    rw [wanted_put o a dst u h] at h1
    rw [about_put o w a dst u h] at h2
    rw [execOp_put o hs a dst u h] at h3
    exact ⟨h1, h2, h3⟩
  · rintro ⟨h1, h2, h3⟩
    refine ⟨?_, ?_, ?_⟩
    · rw [wanted_put o a dst u h]; exact h1
    · rw [about_put o w a dst u h]; exact h2
    · rw [execOp_put o hs a dst u h]; exact h3

/-- What may come up: reads at the world w; the tail as it may be. -/
def wpAnyR (F : Fence) (n : Nat) (P : Program) (ops : Array Oper) (Q : Exit → Act → World → Prop) (tl : List Nat) (w : World) : Nat → Array Bool → Act → Prop
  | 0, listed, a => Region.ready .any ops listed = [] ∧ Q .normal a w
  | f + 1, listed, a => (Region.ready .any ops listed = [] → Q .normal a w) ∧ ∀ i ∈ Region.ready .any ops listed,
      (∃ o v, ops[i]? = some o ∧ ReadsAt P ops w o v a ∧ wpAnyR F n P ops Q tl w f (listed.setIfInBounds i true) (a.put o.dst v)) ∨ (i ∈ tl ∧ wpOpIn F n P ops Q i (wpAnyIn F n P .any ops Q f (listed.setIfInBounds i true)) a w)
theorem wpAnyIn_of_R (hro : F.round = none) : ∀ (f : Nat) (listed : Array Bool) (a : Act), wpAnyR F n P ops Q tl w f listed a → wpAnyIn F n P .any ops Q f listed a w
  | 0, _, _, h => h
  | f + 1, listed, a, h => ⟨h.1, fun i hi => by
      rcases h.2 i hi with ⟨o, v, ho, hy, hn⟩ | ⟨_, hn⟩
      · unfold Go.wpOpIn
        simp only [ho]
        have hab : ∀ f, o.about P w a.eval = some f → F.fn f := fun f hf => by rw [hy.about] at hf; cases hf
        simp only [hy.wanted, if_true, Oper.wpIn, hro, Oper.semAt_none, hy.run, Oper.uponIn]
        exact ⟨hab, wpAnyIn_of_R hro f _ _ hn⟩
      · exact hn⟩
theorem headR_first {i : Nat} {oi : Oper} {v : Value} (hi : ops[i]? = some oi) (hs : ∀ (j : Nat) (o : Oper) cs b, ops[j]? = some o → o.op ≠ .select cs b) (hit : i ∉ tl) (hsink : ∀ ls, Closed ops ls → ∀ t ∈ tl, ls.getD t false = true → ls.getD i false = true) : ∀ (fuel : Nat) (listed : Array Bool) (a : Act), Closed ops listed →
      (∀ j oj, ops[j]? = some oj → j ≠ i → listed.getD j true = false → (∀ e ∈ oj.after, Region.binds .any e = true → e.on ≠ i) → oi.apart ops oj = true) →
      i ∈ Region.ready .any ops listed → ReadsAt P ops w oi v a →
      wpAnyR F n P ops Q tl w fuel (listed.setIfInBounds i true) (a.put oi.dst v) → wpAnyR F n P ops Q tl w (fuel + 1) listed a := by
  intro fuel
  induction fuel with
  | zero =>
    intro listed a hcl _ hr hy H
    refine ⟨fun h0 => (by rw [h0] at hr; cases hr), fun j hj => ?_⟩
    by_cases hji : j = i
    · subst hji
      exact .inl ⟨oi, v, hi, hy, H⟩
    · have := ready_mono hj hji
      rw [H.1] at this
      cases this
  | succ fuel ih =>
    intro listed a hcl hfree hr hy H
    refine ⟨fun h0 => (by rw [h0] at hr; cases hr), fun j hj => ?_⟩
    by_cases hji : j = i
    · subst hji
      exact .inl ⟨oi, v, hi, hy, H⟩
    · have hH := H.2 j (ready_mono hj hji)
      obtain ⟨hjun, oj, hoj, hall⟩ := mem_ready.1 hj
      have hnot : ∀ e ∈ oj.after, Region.binds .any e = true → e.on ≠ i := fun e he hb heq => by
        have h1 := hall e he hb
        have h0 := (mem_ready.1 hr).1
        rw [heq] at h1
        rcases Nat.lt_or_ge i listed.size with h' | h'
        · simp [h'] at h0 h1; rw [h0] at h1; cases h1
        · simp [Array.getElem?_eq_none h'] at h1
      have hjt : j ∉ tl := fun ht => by
        have hsz : ∀ k ok, ops[k]? = some ok → k < listed.size := fun k ok hk => by
          rw [hcl.1]; exact (Array.getElem?_eq_some_iff.1 hk).1
        have k1 := hsink _ (hcl.set hj) j ht (by have := hsz j oj hoj; simp [this])
        rw [getD_set_ne false hji] at k1
        have h0 := (mem_ready.1 hr).1
        have := hsz i oi hi
        simp [this] at h0 k1
        rw [h0] at k1; cases k1
      rcases hH with ⟨oj', u, hoj', hyj, hn⟩ | ⟨ht, _⟩
      · obtain rfl : oj = oj' := Option.some.inj (hoj.symm.trans hoj')
        obtain ⟨p1, p2, p3⟩ := Oper.apart_spec (hfree j oj hoj hji hjun hnot)
        refine .inl ⟨oj, u, hoj, (ReadsAt.of_put (fun cs b => hs j oj cs b hoj) p1).1 hyj, ?_⟩
        refine ih (listed.setIfInBounds j true) (a.put oj.dst u) (hcl.set hj) (fun k ok hk hki hun hno => ?_) (ready_mono hr (Ne.symm hji)) ((ReadsAt.of_put (fun cs b => hs i oi cs b hi) p3).2 hy) ?_
        · refine hfree k ok hk hki ?_ hno
          by_cases hjk : j = k
          · subst hjk; exact hjun
          · rw [getD_set_ne true hjk] at hun; exact hun
        · rw [Array.setIfInBounds_comm _ _ hji, ← Act.put_comm a v u p2]
          exact hn
      · exact absurd ht hjt

/-- The reads, in the text's order (marks: 0 a read, 2 the tail). -/
def headR (P : Program) (ops : Array Oper) (w : World) (K : List Oper → Act → Prop) : List Nat → List Oper → List Oper → Act → Prop
  | t :: ts, o :: l, acc, a => if t = 2 then headR P ops w K ts l (acc ++ [o]) a else ∃ v, ReadsAt P ops w o v a ∧ headR P ops w K ts l acc (a.put o.dst v)
  | [], _, acc, a => K acc a
  | _ :: _, [], acc, a => K acc a
def headRW (P : Program) (ops : Array Oper) (w : World) (K : Act → Prop) : List (Nat × Bool) → Act → Prop
  | [], a => K a
  | i :: r, a => ∃ o v, ops[i.1]? = some o ∧ ReadsAt P ops w o v a ∧ headRW P ops w K r (a.put o.dst v)
theorem headRW_of {K : Act → Prop} : ∀ (ts : List Nat) (l acc : List Oper) (k : Nat) (a : Act), ts.length = l.length → (∀ j, l[j]? = ops[k + j]?) → headR P ops w (fun _ a' => K a') ts l acc a → headRW P ops w K (ordFrom k ts) a
  | [], [], acc, k, a, _, _, h => h
  | [], _ :: _, _, _, _, hl, _, _ => nomatch hl
  | _ :: _, [], _, _, _, hl, _, _ => nomatch hl
  | t :: ts, o :: l, acc, k, a, hl, hj, h => by
    have h0 : ops[k]? = some o := by simpa using (hj 0).symm
    have hj' : ∀ j, l[j]? = ops[k + 1 + j]? := fun j => by have := hj (j + 1); simpa [Nat.add_assoc, Nat.add_comm 1 j] using this
    have hl' : ts.length = l.length := by simpa using hl
    unfold headR at h
    by_cases ht : t = 2
    · subst ht
      simp only [if_true] at h
      simp only [ordFrom, if_true]
      exact headRW_of ts l (acc ++ [o]) (k + 1) a hl' hj' h
    · rw [if_neg ht] at h
      obtain ⟨v, h1, hr⟩ := h
      simp only [ordFrom, if_neg ht]
      exact ⟨o, v, h0, h1, headRW_of ts l acc (k + 1) _ hl' hj' hr⟩
def readsOK (ops : Array Oper) (tl : List Nat) (ord : List (Nat × Bool)) (listed : Array Bool) : Bool := Region.noSelect ops && ordB ops (ord.map (·.1)) listed && ((match tl with | [] => true | t :: _ => sinkB ops t (ord.map (·.1))) && chainB ops tl && ord.all fun i => !tl.contains i.1)
theorem readsAll (hs : ∀ (j : Nat) (o : Oper) cs b, ops[j]? = some o → o.op ≠ .select cs b) {K : Act → Prop} {m : Nat} (full : List Nat) (hsink : ∀ ls, Closed ops ls → ∀ t ∈ tl, ls.getD t false = true → ∀ i ∈ full, ls.getD i false = true) : ∀ (ord : List (Nat × Bool)) (listed : Array Bool) (a : Act), (∀ p ∈ ord, p.1 ∈ full ∧ p.1 ∉ tl) → Closed ops listed → ordB ops (ord.map (·.1)) listed = true →
    headRW P ops w K ord a → (∀ a', K a' → wpAnyR F n P ops Q tl w m (setAll (ord.map (·.1)) listed) a') → wpAnyR F n P ops Q tl w (ord.length + m) listed a
  | [], listed, a, _, _, _, h, hn => by rw [List.length_nil, Nat.zero_add]; exact hn a h
  | (i, b) :: r, listed, a, hin, hcl, hB, h, hn => by
    simp only [List.map_cons, ordB, Bool.and_eq_true] at hB
    obtain ⟨⟨hr, hfr⟩, hB'⟩ := hB
    obtain ⟨o, v, ho, hy, hK⟩ := h
    have hr' : i ∈ Region.ready .any ops listed := by simpa using hr
    obtain ⟨hif, hit⟩ := hin (i, b) (.head _)
    rw [List.length_cons, show r.length + 1 + m = (r.length + m) + 1 by omega]
    exact headR_first ho hs hit (fun ls hl t ht hlt => hsink ls hl t ht hlt i hif) (r.length + m) listed a hcl (Region.free_spec ho hfr) hr' hy (readsAll hs full hsink r _ _ (fun p hp => hin p (.tail _ hp)) (hcl.set hr') hB' hK hn)
/-- **THE LAW.** -/
theorem wpIn_region_reads {id : Nat} {l : List Oper} {a : Act} (ts : List Nat) (m : Nat) (hm : P.follows .mixedOrders = true) (hro : F.round = none) (hlen : ts.length = l.length) (hsz : l.length = (ordFrom 0 ts).length + (m + 1)) (hB : readsOK l.toArray (tlFrom 0 ts) (ordFrom 0 ts) (Array.replicate l.length false) = true)
    (hT : ((Region.ready .any l.toArray (setAll ((ordFrom 0 ts).map (·.1)) (Array.replicate l.length false))).all (tlFrom 0 ts).contains) = true)
    (h : ∀ K : Act → Prop, (∀ a', wpAnyIn F n P .any l.toArray Q (m + 1) (setAll ((ordFrom 0 ts).map (·.1)) (Array.replicate l.length false)) a' w.drew → K a') → headR P l.toArray w.drew (fun _ a' => K a') ts l [] a) : (Code.region id l.toArray true).wpIn F n P Q a w := by
  refine wpIn_region_any hm ?_
  change wpAnyIn _ _ _ _ _ _ _ _ _ w.drew
  simp only [readsOK, Bool.and_eq_true] at hB
  obtain ⟨⟨h1, h2⟩, ⟨h3, h4⟩, h5⟩ := hB
  have hcl0 : Closed l.toArray (Array.replicate l.length false) := ⟨by simp, fun j oj _ hl => by
    rcases Nat.lt_or_ge j l.length with h' | h'
    · simp [h'] at hl
    · simp [h'] at hl⟩
  have hsink : ∀ ls, Closed l.toArray ls → ∀ t ∈ tlFrom 0 ts, ls.getD t false = true → ∀ i ∈ (ordFrom 0 ts).map (·.1), ls.getD i false = true := fun ls hl t ht hlt i hi => by
    cases htl : tlFrom 0 ts with
    | nil => rw [htl] at ht; cases ht
    | cons t0 r =>
      have ht0 := closed_tail hl _ h4 t ht hlt t0 (by rw [htl]; rfl)
      rw [htl] at h3
      exact closed_sink hl ht0 _ h3 i hi
  have hW := headRW_of (P := P) (ops := l.toArray) (w := w.drew) (K := fun a' => wpAnyIn F n P .any l.toArray Q (m + 1) (setAll ((ordFrom 0 ts).map (·.1)) (Array.replicate l.length false)) a' w.drew) ts l [] 0 a hlen (fun j => by simp) (h _ (fun _ h => h))
  have hA := readsAll (F := F) (n := n) (Q := Q) (tl := tlFrom 0 ts) (m := m + 1) (Region.noSelect_spec h1) _ hsink (ordFrom 0 ts) _ a (fun p hp => ⟨List.mem_map.2 ⟨p, hp, rfl⟩, by simpa using List.all_eq_true.1 h5 p hp⟩) hcl0 h2 hW (fun a' ha' => ⟨ha'.1, fun i hi => .inr ⟨by simpa using List.all_eq_true.1 hT i hi, ha'.2 i hi⟩⟩)
  rw [← hsz] at hA
  have := wpAnyIn_of_R hro _ _ _ hA
  simpa using this
theorem hr_tail {ts : List Nat} {r acc : List Oper} {o : Oper} {a : Act} {K : List Oper → Act → Prop} (h : headR P ops w K ts r (acc ++ [o]) a) : headR P ops w K (2 :: ts) (o :: r) acc a := by
  unfold headR; rw [if_pos rfl]; exact h
theorem hr_nil {r acc : List Oper} {a : Act} {K : List Oper → Act → Prop} (h : K acc a) : headR P ops w K [] r acc a := by
  unfold headR; exact h
theorem hr_read {ts : List Nat} {r acc : List Oper} {o : Oper} {a a' : Act} {v : Value} {K : List Oper → Act → Prop} (hw : Region.wanted o (yielded ops a.tmps) = true) (hab : o.about P w a.eval = none) (hrun : (execOp a.eval o).run P w = .ok (.value v) w) (ha : a.put o.dst v = a')
    (h : headR P ops w K ts r acc a') : headR P ops w K (0 :: ts) (o :: r) acc a := by
  unfold headR
  rw [if_neg (by decide)]
  subst ha
  exact ⟨v, ⟨hw, hab, hrun⟩, h⟩
end
end Go.Proofs.Ytdmdkdodfngjiaa
