/- A region inside a fence that draws its order: what only reads the world that it stands in is taken in the text's order; the rest (a call, say) comes behind it. No condition; nothing of the program is named here. -/
import Derived.OrdersIn
import Derived.RegionIn
import Derived.Test.YtgfoeongjhkdmaaGreatRA
import Derived.RangeFuncNested
import Derived.RangeFuncBound
import Derived.RangeFuncCalls
import Derived.RangeFuncLeaves
import Derived.RangeFuncBox
import Derived.RangeFuncFrom
import Derived.Shelf.Abstract
import Derived.Shelf.RegionOpen
import Derived.WalkKit
import Derived.OwnWalkIn
import Derived.TacticsInMore
import Derived.LoopNIn
import Derived.LoopIn
import Derived.Sort.CutIn
import Derived.Stop.RegionWithIn
import Derived.Test.YtgfoeongjhkdmaaGreatRB
import Derived.RangeFuncOwn
import Derived.TacticsIn
set_option linter.unusedVariables false
set_option linter.unusedSimpArgs false
namespace Go.Proofs.YtgfoeongjhkdmaaGreat
open Go.RowKit
section
variable {F : Fence} {n : Nat} {P : Program} {ops : Array Oper} {Q : Exit → Act → World → Prop} {w : World} {tl : List Nat}
structure ReadsAt (P : Program) (ops : Array Oper) (w : World) (o : Oper) (v : Value) (a : Act) : Prop where
  wanted : Region.wanted o (yielded ops a.tmps) = true
  about : o.about P w a.eval = none
  run : (execOp a.eval o).run P w = .ok (.value v) w
theorem ReadsAt.of_put {o : Oper} {v u : Value} {a : Act} {dst : Option Tmp} (hs : ∀ cs b, o.op ≠ .select cs b) (h : ∀ d, dst = some d → d ∉ o.looksAt ops) : ReadsAt P ops w o v (a.put dst u) ↔ ReadsAt P ops w o v a := by
  constructor
  · rintro ⟨h1, h2, h3⟩
    rw [wanted_put o a dst u h] at h1
    rw [about_put o w a dst u h] at h2
    rw [execOp_put o hs a dst u h] at h3
    exact ⟨h1, h2, h3⟩
  · rintro ⟨h1, h2, h3⟩
    refine ⟨?_, ?_, ?_⟩
    · rw [wanted_put o a dst u h]; exact h1
    · rw [about_put o w a dst u h]; exact h2
    · rw [execOp_put o hs a dst u h]; exact h3
def wpAnyR (F : Fence) (n : Nat) (P : Program) (ops : Array Oper) (Q : Exit → Act → World → Prop) (tl : List Nat) (w : World) : Nat → Array Bool → Act → Prop
  | 0, listed, a => Region.ready .any ops listed = [] ∧ Q .normal a w
  | f + 1, listed, a => (Region.ready .any ops listed = [] → Q .normal a w) ∧ ∀ i ∈ Region.ready .any ops listed,
      (∃ o v, ops[i]? = some o ∧ ReadsAt P ops w o v a ∧ wpAnyR F n P ops Q tl w f (listed.setIfInBounds i true) (a.put o.dst v)) ∨ (i ∈ tl ∧ wpOpIn F n P ops Q i (wpAnyIn F n P .any ops Q f (listed.setIfInBounds i true)) a w)
theorem wpAnyIn_of_R (hro : F.round = none) : ∀ (f : Nat) (listed : Array Bool) (a : Act), wpAnyR F n P ops Q tl w f listed a → wpAnyIn F n P .any ops Q f listed a w
  | 0, _, _, h => h
  | f + 1, listed, a, h => ⟨h.1, fun i hi => by
      rcases h.2 i hi with ⟨o, v, ho, hy, hn⟩ | ⟨_, hn⟩
      · unfold Go.wpOpIn
        simp only [ho]
        have hab : ∀ f, o.about P w a.eval = some f → F.fn f := fun f hf => by rw [hy.about] at hf; cases hf
        simp only [hy.wanted, if_true, Oper.wpIn, hro, Oper.semAt_none, hy.run, Oper.uponIn]
        exact ⟨hab, wpAnyIn_of_R hro f _ _ hn⟩
      · exact hn⟩
theorem headR_first {i : Nat} {oi : Oper} {v : Value} (hi : ops[i]? = some oi) (hs : ∀ (j : Nat) (o : Oper) cs b, ops[j]? = some o → o.op ≠ .select cs b) (hit : i ∉ tl) (hsink : ∀ ls, Closed ops ls → ∀ t ∈ tl, ls.getD t false = true → ls.getD i false = true) : ∀ (fuel : Nat) (listed : Array Bool) (a : Act), Closed ops listed →
      (∀ j oj, ops[j]? = some oj → j ≠ i → listed.getD j true = false → (∀ e ∈ oj.after, Region.binds .any e = true → e.on ≠ i) → oi.apart ops oj = true) →
      i ∈ Region.ready .any ops listed → ReadsAt P ops w oi v a →
      wpAnyR F n P ops Q tl w fuel (listed.setIfInBounds i true) (a.put oi.dst v) → wpAnyR F n P ops Q tl w (fuel + 1) listed a := by
  intro fuel
  induction fuel with
  | zero =>
    intro listed a hcl _ hr hy H
    refine ⟨fun h0 => (by rw [h0] at hr; cases hr), fun j hj => ?_⟩
    by_cases hji : j = i
    · subst hji
      exact .inl ⟨oi, v, hi, hy, H⟩
    · have := ready_mono hj hji
      rw [H.1] at this
      cases this
  | succ fuel ih =>
    intro listed a hcl hfree hr hy H
    refine ⟨fun h0 => (by rw [h0] at hr; cases hr), fun j hj => ?_⟩
    by_cases hji : j = i
    · subst hji
      exact .inl ⟨oi, v, hi, hy, H⟩
    · have hH := H.2 j (ready_mono hj hji)
      obtain ⟨hjun, oj, hoj, hall⟩ := mem_ready.1 hj
      have hnot : ∀ e ∈ oj.after, Region.binds .any e = true → e.on ≠ i := fun e he hb heq => by
        have h1 := hall e he hb
        have h0 := (mem_ready.1 hr).1
        rw [heq] at h1
        rcases Nat.lt_or_ge i listed.size with h' | h'
        · simp [h'] at h0 h1; rw [h0] at h1; cases h1
        · simp [Array.getElem?_eq_none h'] at h1
      have hjt : j ∉ tl := fun ht => by
        have hsz : ∀ k ok, ops[k]? = some ok → k < listed.size := fun k ok hk => by
          rw [hcl.1]; exact (Array.getElem?_eq_some_iff.1 hk).1
        have k1 := hsink _ (hcl.set hj) j ht (by have := hsz j oj hoj; simp [this])
        rw [getD_set_ne false hji] at k1
        have h0 := (mem_ready.1 hr).1
        have := hsz i oi hi
        simp [this] at h0 k1
        rw [h0] at k1; cases k1
      rcases hH with ⟨oj', u, hoj', hyj, hn⟩ | ⟨ht, _⟩
      · obtain rfl : oj = oj' := Option.some.inj (hoj.symm.trans hoj')
        obtain ⟨p1, p2, p3⟩ := Oper.apart_spec (hfree j oj hoj hji hjun hnot)
        refine .inl ⟨oj, u, hoj, (ReadsAt.of_put (fun cs b => hs j oj cs b hoj) p1).1 hyj, ?_⟩
        refine ih (listed.setIfInBounds j true) (a.put oj.dst u) (hcl.set hj) (fun k ok hk hki hun hno => ?_) (ready_mono hr (Ne.symm hji)) ((ReadsAt.of_put (fun cs b => hs i oi cs b hi) p3).2 hy) ?_
        · refine hfree k ok hk hki ?_ hno
          by_cases hjk : j = k
          · subst hjk; exact hjun
          · rw [getD_set_ne true hjk] at hun; exact hun
        · rw [Array.setIfInBounds_comm _ _ hji, ← Act.put_comm a v u p2]
          exact hn
      · exact absurd ht hjt
def headR (P : Program) (ops : Array Oper) (w : World) (K : List Oper → Act → Prop) : List Nat → List Oper → List Oper → Act → Prop
  | t :: ts, o :: l, acc, a => if t = 2 then headR P ops w K ts l (acc ++ [o]) a else ∃ v, ReadsAt P ops w o v a ∧ headR P ops w K ts l acc (a.put o.dst v)
  | [], _, acc, a => K acc a
  | _ :: _, [], acc, a => K acc a
def headRW (P : Program) (ops : Array Oper) (w : World) (K : Act → Prop) : List (Nat × Bool) → Act → Prop
  | [], a => K a
  | i :: r, a => ∃ o v, ops[i.1]? = some o ∧ ReadsAt P ops w o v a ∧ headRW P ops w K r (a.put o.dst v)
theorem headRW_of {K : Act → Prop} : ∀ (ts : List Nat) (l acc : List Oper) (k : Nat) (a : Act), ts.length = l.length → (∀ j, l[j]? = ops[k + j]?) → headR P ops w (fun _ a' => K a') ts l acc a → headRW P ops w K (xCf k ts) a
  | [], [], acc, k, a, _, _, h => h
  | [], _ :: _, _, _, _, hl, _, _ => nomatch hl
  | _ :: _, [], _, _, _, hl, _, _ => nomatch hl
  | t :: ts, o :: l, acc, k, a, hl, hj, h => by
    have h0 : ops[k]? = some o := by simpa using (hj 0).symm
    have hj' : ∀ j, l[j]? = ops[k + 1 + j]? := fun j => by have := hj (j + 1); simpa [Nat.add_assoc, Nat.add_comm 1 j] using this
    have hl' : ts.length = l.length := by simpa using hl
    unfold headR at h
    by_cases ht : t = 2
    · subst ht
      simp only [if_true] at h
      simp only [xCf, if_true]
      exact headRW_of ts l (acc ++ [o]) (k + 1) a hl' hj' h
    · rw [if_neg ht] at h
      obtain ⟨v, h1, hr⟩ := h
      simp only [xCf, if_neg ht]
      exact ⟨o, v, h0, h1, headRW_of ts l acc (k + 1) _ hl' hj' hr⟩
def readsOK (ops : Array Oper) (tl : List Nat) (ord : List (Nat × Bool)) (listed : Array Bool) : Bool := Region.noSelect ops && ordB ops (ord.map (·.1)) listed && ((match tl with | [] => true | t :: _ => sinkB ops t (ord.map (·.1))) && chainB ops tl && ord.all fun i => !tl.contains i.1)
theorem readsAll (hs : ∀ (j : Nat) (o : Oper) cs b, ops[j]? = some o → o.op ≠ .select cs b) {K : Act → Prop} {m : Nat} (full : List Nat) (hsink : ∀ ls, Closed ops ls → ∀ t ∈ tl, ls.getD t false = true → ∀ i ∈ full, ls.getD i false = true) : ∀ (ord : List (Nat × Bool)) (listed : Array Bool) (a : Act), (∀ p ∈ ord, p.1 ∈ full ∧ p.1 ∉ tl) → Closed ops listed → ordB ops (ord.map (·.1)) listed = true →
    headRW P ops w K ord a → (∀ a', K a' → wpAnyR F n P ops Q tl w m (setAll (ord.map (·.1)) listed) a') → wpAnyR F n P ops Q tl w (ord.length + m) listed a
  | [], listed, a, _, _, _, h, hn => by rw [List.length_nil, Nat.zero_add]; exact hn a h
  | (i, b) :: r, listed, a, hin, hcl, hB, h, hn => by
    simp only [List.map_cons, ordB, Bool.and_eq_true] at hB
    obtain ⟨⟨hr, hfr⟩, hB'⟩ := hB
    obtain ⟨o, v, ho, hy, hK⟩ := h
    have hr' : i ∈ Region.ready .any ops listed := by simpa using hr
    obtain ⟨hif, hit⟩ := hin (i, b) (.head _)
    rw [List.length_cons, show r.length + 1 + m = (r.length + m) + 1 by omega]
    exact headR_first ho hs hit (fun ls hl t ht hlt => hsink ls hl t ht hlt i hif) (r.length + m) listed a hcl (Region.free_spec ho hfr) hr' hy (readsAll hs full hsink r _ _ (fun p hp => hin p (.tail _ hp)) (hcl.set hr') hB' hK hn)
theorem wpIn_region_reads {id : Nat} {l : List Oper} {a : Act} (ts : List Nat) (m : Nat) (hm : P.follows .mixedOrders = true) (hro : F.round = none) (hlen : ts.length = l.length) (hsz : l.length = (xCf 0 ts).length + (m + 1)) (hB : readsOK l.toArray (tlFrom 0 ts) (xCf 0 ts) (Array.replicate l.length false) = true)
    (hT : ((Region.ready .any l.toArray (setAll ((xCf 0 ts).map (·.1)) (Array.replicate l.length false))).all (tlFrom 0 ts).contains) = true)
    (h : ∀ K : Act → Prop, (∀ a', wpAnyIn F n P .any l.toArray Q (m + 1) (setAll ((xCf 0 ts).map (·.1)) (Array.replicate l.length false)) a' w.drew → K a') → headR P l.toArray w.drew (fun _ a' => K a') ts l [] a) : (Code.region id l.toArray true).wpIn F n P Q a w := by
  refine wpIn_region_any hm ?_
  change wpAnyIn _ _ _ _ _ _ _ _ _ w.drew
  simp only [readsOK, Bool.and_eq_true] at hB
  obtain ⟨⟨h1, h2⟩, ⟨h3, h4⟩, h5⟩ := hB
  have hcl0 : Closed l.toArray (Array.replicate l.length false) := ⟨by simp, fun j oj _ hl => by
    rcases Nat.lt_or_ge j l.length with h' | h'
    · simp [h'] at hl
    · simp [h'] at hl⟩
  have hsink : ∀ ls, Closed l.toArray ls → ∀ t ∈ tlFrom 0 ts, ls.getD t false = true → ∀ i ∈ (xCf 0 ts).map (·.1), ls.getD i false = true := fun ls hl t ht hlt i hi => by
    cases htl : tlFrom 0 ts with
    | nil => rw [htl] at ht; cases ht
    | cons t0 r =>
      have ht0 := closed_tail hl _ h4 t ht hlt t0 (by rw [htl]; rfl)
      rw [htl] at h3
      exact closed_sink hl ht0 _ h3 i hi
  have hW := headRW_of (P := P) (ops := l.toArray) (w := w.drew) (K := fun a' => wpAnyIn F n P .any l.toArray Q (m + 1) (setAll ((xCf 0 ts).map (·.1)) (Array.replicate l.length false)) a' w.drew) ts l [] 0 a hlen (fun j => by simp) (h _ (fun _ h => h))
  have hA := readsAll (F := F) (n := n) (Q := Q) (tl := tlFrom 0 ts) (m := m + 1) (Region.noSelect_spec h1) _ hsink (xCf 0 ts) _ a (fun p hp => ⟨List.mem_map.2 ⟨p, hp, rfl⟩, by simpa using List.all_eq_true.1 h5 p hp⟩) hcl0 h2 hW (fun a' ha' => ⟨ha'.1, fun i hi => .inr ⟨by simpa using List.all_eq_true.1 hT i hi, ha'.2 i hi⟩⟩)
  rw [← hsz] at hA
  have := wpAnyIn_of_R hro _ _ _ hA
  simpa using this
theorem hr_tail {ts : List Nat} {r acc : List Oper} {o : Oper} {a : Act} {K : List Oper → Act → Prop} (h : headR P ops w K ts r (acc ++ [o]) a) : headR P ops w K (2 :: ts) (o :: r) acc a := by
  unfold headR; rw [if_pos rfl]; exact h
theorem hr_nil {r acc : List Oper} {a : Act} {K : List Oper → Act → Prop} (h : K acc a) : headR P ops w K [] r acc a := by
  unfold headR; exact h
theorem hr_read {ts : List Nat} {r acc : List Oper} {o : Oper} {a a' : Act} {v : Value} {K : List Oper → Act → Prop} (hw : Region.wanted o (yielded ops a.tmps) = true) (hab : o.about P w a.eval = none) (hrun : (execOp a.eval o).run P w = .ok (.value v) w) (ha : a.put o.dst v = a')
    (h : headR P ops w K ts r acc a') : headR P ops w K (0 :: ts) (o :: r) acc a := by
  unfold headR
  rw [if_neg (by decide)]
  subst ha
  exact ⟨v, ⟨hw, hab, hrun⟩, h⟩
end
end Go.Proofs.YtgfoeongjhkdmaaGreat
namespace Go.Proofs.YtgfoeongjhkdmaaGreat
open Go.RowKit
attribute [local go_sem] Oper.semAt_some
abbrev Pair := { x : Nat × Nat // x.1 < B ∧ x.2 < B }
def up (zs : Nat → Pair) (m : Nat) : List Pair := (List.range m).map zs
theorem up_succ (zs : Nat → Pair) (m : Nat) : up zs (m + 1) = up zs m ++ [zs m] := by simp [up, List.range_succ]
theorem up_length (zs : Nat → Pair) (m : Nat) : (up zs m).length = m := by simp [up]
def keepS (bs : List Nat) (A B : World) : Prop := ∀ p : Addr, p.block ∈ bs → B.cell? p = A.cell? p
theorem keepS_t {bs : List Nat} {A B C : World} (h1 : keepS bs A B) (h2 : keepS bs B C) : keepS bs A C := fun p hp => (h2 p hp).trans (h1 p hp)
theorem keepS_b {bs : List Nat} {w : World} (h1 : ∀ b ∈ bs, b < w.heap.size) (W : World) (l : Nat) (o o' : Obj) (hl : w.heap.size ≤ l) (_ : W.heap[l]? = some o) (_ : o.isCells = false) (_ : o.isWalk = false) : keepS bs W (W.putObj l o') := fun p hp =>
  World.cell?_of_block (World.putObj_heap_other (fun e => by have := h1 _ hp; omega))
def liesAt (w : World) (b i a : Nat) : Prop := w.cell? ⟨b, i, none⟩ = some (.int .u64 (wd a 0)) ∧ w.cell? ⟨b, i + 1, none⟩ = some (.int .u64 (wd a 1)) ∧ w.cell? ⟨b, i + 2, none⟩ = some (.int .u64 (wd a 2)) ∧ w.cell? ⟨b, i + 3, none⟩ = some (.int .u64 (wd a 3))
theorem liesAt.drew {w : World} {b i a : Nat} (h : liesAt w b i a) : liesAt w.drew b i a := h
theorem liesAt.load {w : World} {b i a : Nat} (h : liesAt w b i a) : (loadVar 24 ⟨b, i, none⟩).run Tryz.prog w = .ok (num a) w := by
  obtain ⟨d, hu, hd, hi⟩ := (inferInstance : RowT Tryz.prog 24 4).is
  obtain ⟨h0, h1, h2, h3⟩ := h
  refine run_loadVar_mid w b i _ (nl a) d (fun j v hj => ?_) hu hd (by rw [hi]; rfl)
  unfold nl at hj
  rcases j with _ | _ | _ | _ | j
  · obtain rfl : _ = v := by simpa using hj
    exact h0
  · obtain rfl : _ = v := by simpa using hj
    exact h1
  · obtain rfl : _ = v := by simpa using hj
    exact h2
  · obtain rfl : _ = v := by simpa using hj
    exact h3
  · simp at hj
instance cellNums : CellT Tryz.prog 46 := .mk' (by kernel_rfl) (by kernel_rfl)
theorem load_cell {ty : TypeId} [hT : CellT Tryz.prog ty] {ad : Addr} {v : Value} {w : World} (h : w.cell? ad = some v) : (loadVar ty ad).run Tryz.prog w = .ok v w := by
  obtain ⟨d, hu, hd, hi⟩ := hT.is
  have hagg : (isAgg ty).run Tryz.prog w = .ok false w := by
    unfold isAgg
    rw [Sem.run_bind, run_underlying hu w]
    cases d <;> simp_all
  have hl : (load ad).run Tryz.prog w = .ok v w := by
    simp only [load, Sem.run, h]
  unfold loadVar
  rw [Sem.run_bind, hagg]
  simp only [Result.andThen_ok, Bool.false_eq_true, if_false]
  exact hl
section
variable {P : Program} {ops : Array Oper} {w : World} {ts : List Nat} {r acc : List Oper} {o : Oper} {a : Act} {K : List Oper → Act → Prop}
theorem hr_load (hw : Region.wanted o (yielded ops a.tmps) = true) {ty : TypeId} {x : Operand} (hop : o.op = .load ty x) {ad : Addr} (hx : a.eval x = .pointer (some ad)) {v : Value} (hv : (loadVar ty ad).run P w = .ok v w)
    {a' : Act} (ha : a.put o.dst v = a') (h : headR P ops w K ts r acc a') : headR P ops w K (0 :: ts) (o :: r) acc a :=
  hr_read hw (by unfold Oper.about; simp only [hop]) (by unfold execOp; simp only [hop, hx, Instr.loadAt, Instr.sureAddr, Sem.run_bind, Sem.run_pure, Result.andThen_ok, hv]) ha h
end
set_option maxRecDepth 100000 in
set_option maxHeartbeats 1000000 in
theorem pairs1_in (F : Fence) (n : Nat) (h7 : F.fn 78) (hro : F.round = none) (hn : 1 ≤ n) (l Ba Bn ba bn oa on len ca cn : Nat) (pa pn : Option Addr) (zs : Nat → Pair) (hlen : len ≤ 1000000) (hpa : 0 < len → pa = some ⟨ba, oa, none⟩) (hpn : 0 < len → pn = some ⟨bn, on, none⟩) (J Jx : List Pair → World → Prop)
    (hJd : ∀ s W, J s W → J s W.drew)
    (hY : ∀ pre (x : Pair) W, J pre W → pre.length < len → YieldAt F (n - 1) Tryz.prog l #[num x.1.1, num x.1.2] W fun e W' =>
      (e = .returned (.bool true) ∧ J (pre ++ [x]) W' ∧ keepS [Ba, Bn, ba, bn] W W') ∨ (e = .returned (.bool false) ∧ Jx (pre ++ [x]) W'))
    (W : World) (hBa : W.cell? ⟨Ba, 0, none⟩ = some (.slice pa len ca)) (hBn : W.cell? ⟨Bn, 0, none⟩ = some (.slice pn len cn)) (hca : ∀ j, j < len → liesAt W ba (oa + j * 4) (zs j).1.1) (hcn : ∀ j, j < len → liesAt W bn (on + j * 4) (zs j).1.2) (h0 : J [] W) :
    CallsIn F n Tryz.prog 78 #[.func (.yield l) #[] #[], .pointer (some ⟨Ba, 0, none⟩), .pointer (some ⟨Bn, 0, none⟩)] W fun e W' => (∃ v, e = .returned v) ∧
      ((∃ ys, ys = up zs len ∧ J ys W') ∨ (∃ pre, (∃ m, m ≤ len ∧ pre = up zs m) ∧ Jx pre W')) := by
  refine callsIn_of_wp Tryz.func78 rfl h7 ?_ hro
  simp only [Tryz.ntmps78, List.size_toArray, List.length_cons, List.length_nil, Nat.reduceAdd, Nat.reduceSub, Array.replicate_succ, Array.replicate_zero, List.push_toArray, List.append_toArray, List.nil_append, List.cons_append]
  have l0 : 0 ≤ (len : Int) := by omega
  have l1 : (len : Int) ≤ 1000000 := by omega
  gi_wp2
  gi_loopw [7] (fun i wr => ∃ m : Nat, m ≤ len ∧ i = .int .i64 (m : Int) ∧ J (up zs m) wr ∧ keepS [Ba, Bn, ba, bn] W wr)
    (fun i _ => len - (intOf i).toNat)
  case atStart => exact ⟨0, Nat.zero_le _, rfl, h0, fun _ _ => rfl⟩
  case round =>
    obtain ⟨m, hm, rfl, hJs, hnx⟩ := hrel
    by_cases hlt : m < len
    · have e1 : wr.cell? ⟨Ba, 0, none⟩ = some (.slice pa len ca) := (hnx ⟨Ba, 0, none⟩ (by simp)).trans hBa
      have e2 : wr.cell? ⟨Bn, 0, none⟩ = some (.slice pn len cn) := (hnx ⟨Bn, 0, none⟩ (by simp)).trans hBn
      have m1 : (m : Int) < (len : Int) := by omega
      have m0 : 0 ≤ (m : Int) := by omega
      obtain ⟨a0, a1, a2, a3⟩ := hca m hlt
      obtain ⟨b0, b1, b2, b3⟩ := hcn m hlt
      rw [← hnx ⟨ba, _, none⟩ (by simp)] at a0 a1 a2 a3
      rw [← hnx ⟨bn, _, none⟩ (by simp)] at b0 b1 b2 b3
      have ln1 : (loadVar 24 ⟨ba, oa + m * 4, none⟩).run Tryz.prog wr.drew = .ok (num (zs m).1.1) wr.drew := liesAt.load ⟨a0, a1, a2, a3⟩
      have ln2 : (loadVar 24 ⟨bn, on + m * 4, none⟩).run Tryz.prog wr.drew = .ok (num (zs m).1.2) wr.drew := liesAt.load ⟨b0, b1, b2, b3⟩
      obtain rfl := hpa (by omega)
      obtain rfl := hpn (by omega)
      have ls1 : (loadVar 46 ⟨Ba, 0, none⟩).run Tryz.prog wr.drew = .ok (.slice (some ⟨ba, oa, none⟩) len ca) wr.drew := load_cell (w := wr.drew) e1
      have ls2 : (loadVar 46 ⟨Bn, 0, none⟩).run Tryz.prog wr.drew = .ok (.slice (some ⟨bn, on, none⟩) len cn) wr.drew := load_cell (w := wr.drew) e2
      clear a0 a1 a2 a3 b0 b1 b2 b3
      obtain ⟨fn, tmps, assign, body, hy, hR⟩ := hY _ (zs m) wr.drew (hJd _ _ hJs) (by rw [up_length]; omega)
      replace hJs := Held.mk hJs
      replace hnx := Held.mk hnx
      replace hca := Held.mk hca
      replace hcn := Held.mk hcn
      replace hBa := Held.mk hBa
      replace hBn := Held.mk hBn
      replace hY := Held.mk hY
      replace hJd := Held.mk hJd
      clear h0
      gi_upto_region 3 with fail
      refine' wpIn_region_reads [0, 0, 0, 0, 0, 0, 0, 0, 0, 2, 2] 1 xCt hro rfl rfl (by kernel_rfl) (by kernel_rfl) (fun K hK => ?_)
      repeat ((first | (refine' hr_load rfl rfl rfl ls1 ?ha ?_) | (refine' hr_load rfl rfl rfl ls2 ?ha ?_) | (refine' hr_load rfl rfl rfl ln1 ?ha ?_) | (refine' hr_load rfl rfl rfl ln2 ?ha ?_) | (refine hr_tail ?_) | (refine' hr_read rfl rfl ?hq ?ha ?_; (case hq => go_simp; try rfl))); try (case ha => simp only [kP, kQ, kA, kB]; try rfl))
      refine hr_nil (hK _ ?_)
      clear hK K
      refine wpAnyIn_ready (rs := [9]) (by kernel_rfl) (by simp) ?_
      refine AllReadyIn.cons rfl (fun K hK => ?_) AllReadyIn.nil
      clear ln1 ln2 ls1 ls2
      replace hK := Held.mk hK
      go_simp
      refine hR.mono ?_
      rintro e W3 (⟨rfl, hJ3, hk3⟩ | ⟨rfl, hJx3⟩)
      · refine hK.out _ _ ?_
        clear hK K
        refine wpAnyIn_ready (rs := [10]) (by kernel_rfl) (by simp) ?_
        refine AllReadyIn.cons rfl (fun K hK => ?_) AllReadyIn.nil
        replace hK := Held.mk hK
        go_simp
        refine hK.out _ _ ?_
        clear hK K
        refine wpAnyIn_done (by kernel_rfl) ?_ _
        gi_wp2
        go_roundw
        case rel => exact ⟨m + 1, by omega, by simp, by rw [up_succ]; exact hJ3, keepS_t hnx.out hk3⟩
        case measure => simp [intOf]; omega
      · refine hK.out _ _ ?_
        clear hK K
        refine wpAnyIn_ready (rs := [10]) (by kernel_rfl) (by simp) ?_
        refine AllReadyIn.cons rfl (fun K hK => ?_) AllReadyIn.nil
        replace hK := Held.mk hK
        go_simp
        refine hK.out _ _ ?_
        clear hK K
        refine wpAnyIn_done (by kernel_rfl) ?_ _
        gi_wp2
        refine bodyPost_ret (results_none rfl _ _ _) rfl ?_
        exact ⟨⟨_, rfl⟩, .inr ⟨_, ⟨m + 1, by omega, (up_succ zs m).symm⟩, hJx3⟩⟩
    · gi_wp2
      go_end0
      exact ⟨⟨_, rfl⟩, .inl ⟨_, rfl, by rw [show len = m by omega]; exact hJs⟩⟩
theorem pairs_stops (F : Fence) (n : Nat) (h7 : F.fn 78) (hro : F.round = none) (hn : 1 ≤ n) (Ba Bn ba bn oa on len ca cn : Nat) (pa pn : Option Addr) (zs : Nat → Pair) (hlen : len ≤ 1000000) (hpa : 0 < len → pa = some ⟨ba, oa, none⟩) (hpn : 0 < len → pn = some ⟨bn, on, none⟩) (w : World) (hb : ∀ b ∈ [Ba, Bn, ba, bn], b < w.heap.size)
    (hBa : w.cell? ⟨Ba, 0, none⟩ = some (.slice pa len ca)) (hBn : w.cell? ⟨Bn, 0, none⟩ = some (.slice pn len cn)) (hca : ∀ j, j < len → liesAt w ba (oa + j * 4) (zs j).1.1) (hcn : ∀ j, j < len → liesAt w bn (on + j * 4) (zs j).1.2) :
    SeqStopsK F n Tryz.prog 78 #[.pointer (some ⟨Ba, 0, none⟩), .pointer (some ⟨Bn, 0, none⟩)] (fun x : Pair => #[num x.1.1, num x.1.2]) (keepS [Ba, Bn, ba, bn]) (fun ys => ys = up zs len) (fun pre => ∃ m, m ≤ len ∧ pre = up zs m) len w := fun l J Jx W hW hJa _ hY h0 => by
  have kp : ∀ p : Addr, p.block ∈ [Ba, Bn, ba, bn] → ∀ v, w.cell? p = some v → W.cell? p = some v := fun p hp v hv => (hW.cell (p := p) (by exact hb _ hp)).trans hv
  refine pairs1_in F n h7 hro hn l Ba Bn ba bn oa on len ca cn pa pn zs hlen hpa hpn J Jx ?hJd hY W (kp _ (by simp) _ hBa) (kp _ (by simp) _ hBn) (fun j hj => ?h1) (fun j hj => ?h2) h0
  case h1 =>
    obtain ⟨a0, a1, a2, a3⟩ := hca j hj
    exact ⟨kp _ (by simp) _ a0, kp _ (by simp) _ a1, kp _ (by simp) _ a2, kp _ (by simp) _ a3⟩
  case h2 =>
    obtain ⟨a0, a1, a2, a3⟩ := hcn j hj
    exact ⟨kp _ (by simp) _ a0, kp _ (by simp) _ a1, kp _ (by simp) _ a2, kp _ (by simp) _ a3⟩
  case hJd =>
    intro s W2 hs
    exact hJa s W2 W2.drew none hs ⟨rfl, rfl, rfl, Nat.le_refl _, fun _ _ _ => rfl⟩ (fun r e => by cases e)
end Go.Proofs.YtgfoeongjhkdmaaGreat
namespace Go.Proofs.YtgfoeongjhkdmaaGreat
open Go.RowKit
theorem KeepsOthers.setCellsK (b : Nat) : ∀ (vs : List Value) (o : Nat) (w : World), KeepsOthers w (w.setCells b o vs)
  | [], o, w => KeepsOthers.refl w
  | v :: vs, o, w => by
    rw [World.setCells]
    exact (KeepsOthers.setCell w _ v).trans (KeepsOthers.setCellsK b vs (o + 1) _)
theorem KeepsOthers.belowK {W W' : World} (h : Below W.heap.size W W') : KeepsOthers W W' :=
  ⟨h.size, fun k o hk _ => by rw [h.block k (Array.getElem?_eq_some_iff.1 hk).1]; exact hk⟩
structure RK (W0 : World) (B0 : Nat) (w0 : World) (L : List (Nat × Obj)) (w : World) : Prop where
  rep : Rep B0 w0 L w
  kept : KeepsOthers W0 w
section
variable {W0 w w0 : World} {B0 : Nat} {L L' : List (Nat × Obj)}
theorem RK.call {w' : World} (h : RK W0 B0 w0 L w) (hb : Below w.heap.size w w') : RK W0 B0 w0 L w' := ⟨h.rep.call hb, h.kept.trans (KeepsOthers.belowK hb)⟩
theorem RK.weaken (h : RK W0 B0 w0 L w) (hs : L'.Sublist L) : RK W0 B0 w0 L' w := ⟨h.rep.weaken hs, h.kept⟩
theorem RK.drew (h : RK W0 B0 w0 L w) : RK W0 B0 w0 L w.drew := ⟨h.rep.drew, h.kept.trans (KeepsOthers.drew _)⟩
theorem RK.storeRow {P : Program} (h : RK W0 B0 w0 L w) {ty : TypeId} {n : Nat} [hT : RowT P ty n] {b off : Nat} {l l' vs : List Value} {t : TypeId} (h1 : vs.all (·.oneCell') = true) (hvn : vs.length = n)
    (hs : xAx L b (.cells l.toArray t) (.cells l'.toArray t) L') (hn : off + n ≤ l.length) (hl : l.take off ++ vs ++ l.drop (off + n) = l') :
    ∃ w', (storeVar ty ⟨b, off, none⟩ (.agg vs.toArray)).run P w = .ok () w' ∧ RK W0 B0 w0 L' w' := by
  obtain ⟨d, hu, hd, hi⟩ := hT.is
  subst hvn
  obtain ⟨a1, a2⟩ := h.rep.storeCells hs hn hl
  exact ⟨_, run_storeVar_mid w b off ty vs.toArray (by simpa using a2) (by simp [hi]) (by simpa using h1), by simpa using a1, h.kept.trans (by simpa using KeepsOthers.setCellsK b vs off w)⟩
theorem RK.storeCell {P : Program} (h : RK W0 B0 w0 L w) {ty : TypeId} [hT : CellT P ty] {b off : Nat} {l l' : List Value} {v : Value} {t : TypeId} (h1 : v.oneCell' = true)
    (hs : xAx L b (.cells l.toArray t) (.cells l'.toArray t) L') (hn : off < l.length) (hl : l.set off v = l') :
    ∃ w', (storeVar ty ⟨b, off, none⟩ v).run P w = .ok () w' ∧ RK W0 B0 w0 L' w' := by
  obtain ⟨d, hu, hd, hi⟩ := hT.is
  obtain ⟨a1, a2⟩ := h.rep.storeCells (vs := [v]) (off := off) hs (by simp; omega) (by
    rw [← hl]
    simp only [List.length_cons, List.length_nil, List.append_assoc, List.cons_append, List.nil_append, Nat.zero_add]
    rw [List.set_eq_take_append_cons_drop, if_pos hn])
  have hc : v.cells = #[v] := by cases v <;> first | rfl | cases h1
  have := run_storeCells_cells (P := P) b off [v] 0 w (fun j hj => by simpa using (a2 j hj).1) (fun j hj => by simpa using (a2 j hj).2) (by simpa using h1)
  cases hq : P.info? ty with
  | none => simp [hq] at hi
  | some i =>
    have hs1 : i.size = 1 := by simpa [hq] using hi
    refine ⟨w.setCells b off [v], ?_, a1, h.kept.trans (KeepsOthers.setCellsK b [v] off w)⟩
    simp only [Nat.add_zero] at this
    simp [storeVar, sizeOf, typeInfo, hq, hc, hs1, this]
end
section lists
variable {F : Fence} {n0 : Nat} {P : Program} {ops : Array Oper} {rest : List Oper} {o : Oper} {a : Act} {w w0 W0 : World} {Q : Exit → Act → World → Prop} {B0 : Nat} {L L' : List (Nat × Obj)}
theorem in_ok (hg : o.guard = none) (hnd : ∀ c, o.op ≠ .defer c) (hab : o.about P w a.eval = none) {v : Value} {w' : World} (hrun : (execOp a.eval o).run P w = .ok (.value v) w') (h : wpListIn F n0 P ops Q rest (a.put o.dst v) w') : wpListIn F n0 P ops Q (o :: rest) a w :=
  wpListIn_plain hg fun _ hK => by
    unfold Oper.wpIn
    have hs : o.semAt F.round a.eval = execOp a.eval o := Oper.semAt_eq _ _ _ hnd
    rw [hs, hrun]
    exact ⟨fun f hf => (by rw [hab] at hf; cases hf), hK _ _ h⟩
theorem in_skip (hg : o.guard = none) (hnd : ∀ c, o.op ≠ .defer c) (hab : o.about P w a.eval = none) {w' : World} (hrun : (execOp a.eval o).run P w = .ok .skip w') (h : wpListIn F n0 P ops Q rest (a.put o.dst undef) w') : wpListIn F n0 P ops Q (o :: rest) a w :=
  wpListIn_plain hg fun _ hK => by
    unfold Oper.wpIn
    have hs : o.semAt F.round a.eval = execOp a.eval o := Oper.semAt_eq _ _ _ hnd
    rw [hs, hrun]
    exact ⟨fun f hf => (by rw [hab] at hf; cases hf), hK _ _ h⟩
theorem in_loadRow (hR : RK W0 B0 w0 L w) (hg : o.guard = none) {ty : TypeId} {x : Operand} (ho : o.op = .load ty x) {n b off : Nat} (hx : a.eval x = .pointer (some ⟨b, off, none⟩)) (hT : RowT P ty n) {l vs : List Value} {t : TypeId}
    (hm : (b, Obj.cells l.toArray t) ∈ L) (hv : (l.drop off).take n = vs) (hn : vs.length = n) (h : wpListIn F n0 P ops Q rest (a.put o.dst (.agg vs.toArray)) w) : wpListIn F n0 P ops Q (o :: rest) a w :=
  in_ok hg (by intro c; rw [ho]; exact fun h => nomatch h) (by unfold Oper.about; simp only [ho]) (by unfold execOp; simp only [ho, hx, Instr.loadAt, Instr.sureAddr, Sem.run_bind, Sem.run_pure, Result.andThen_ok, hR.rep.loadRow (P := P) (ty := ty) hm hv hn]) h
theorem in_loadAll (hR : RK W0 B0 w0 L w) (hg : o.guard = none) {ty : TypeId} {x : Operand} (ho : o.op = .load ty x) {n b : Nat} (hx : a.eval x = .pointer (some ⟨b, 0, none⟩)) (hT : RowT P ty n) {l : List Value} {t : TypeId}
    (hm : (b, Obj.cells l.toArray t) ∈ L) (hn : l.length = n) (h : wpListIn F n0 P ops Q rest (a.put o.dst (.agg l.toArray)) w) : wpListIn F n0 P ops Q (o :: rest) a w :=
  in_loadRow hR hg ho hx hT hm (by simp [← hn]) hn h
theorem in_storeRow (hR : RK W0 B0 w0 L w) (hg : o.guard = none) {ty : TypeId} {x y : Operand} (ho : o.op = .store ty x y) {n b off : Nat} (hx : a.eval x = .pointer (some ⟨b, off, none⟩)) (hT : RowT P ty n) {l l' vs : List Value} {t : TypeId}
    (hy : a.eval y = .agg vs.toArray) (h1 : vs.all (·.oneCell') = true) (hvn : vs.length = n) (hs : xAx L b (.cells l.toArray t) (.cells l'.toArray t) L') (hn : off + n ≤ l.length) (hl : l.take off ++ vs ++ l.drop (off + n) = l')
    (h : ∀ w', RK W0 B0 w0 L' w' → wpListIn F n0 P ops Q rest (a.put o.dst undef) w') : wpListIn F n0 P ops Q (o :: rest) a w := by
  obtain ⟨w', e, hR'⟩ := hR.storeRow (P := P) (ty := ty) h1 hvn hs hn hl
  exact in_skip hg (by intro c; rw [ho]; exact fun h => nomatch h) (by unfold Oper.about; simp only [ho]) (by unfold execOp; simp only [ho, hx, hy, Instr.storeAt, Instr.sureAddr, Sem.run_bind, Sem.run_pure, Result.andThen_ok, e]) (h w' hR')
theorem in_storeAll (hR : RK W0 B0 w0 L w) (hg : o.guard = none) {ty : TypeId} {x y : Operand} (ho : o.op = .store ty x y) {n b : Nat} (hx : a.eval x = .pointer (some ⟨b, 0, none⟩)) (hT : RowT P ty n) {l vs : List Value} {t : TypeId}
    (hy : a.eval y = .agg vs.toArray) (hs : xAx L b (.cells l.toArray t) (.cells vs.toArray t) L') (h1 : vs.all (·.oneCell') = true) (hvn : vs.length = n) (hn : l.length = n)
    (h : ∀ w', RK W0 B0 w0 L' w' → wpListIn F n0 P ops Q rest (a.put o.dst undef) w') : wpListIn F n0 P ops Q (o :: rest) a w :=
  in_storeRow hR hg ho hx hT hy h1 hvn hs (by omega) (by simp [← hn]) h
theorem in_storeCell (hR : RK W0 B0 w0 L w) (hg : o.guard = none) {ty : TypeId} {x y : Operand} (ho : o.op = .store ty x y) {b off : Nat} (hx : a.eval x = .pointer (some ⟨b, off, none⟩)) (hT : CellT P ty) {l l' : List Value} {v : Value} {t : TypeId}
    (hy' : ev a y = some v) (h1 : v.oneCell' = true) (hs : xAx L b (.cells l.toArray t) (.cells l'.toArray t) L') (hn : off < l.length) (hl : l.set off v = l')
    (h : ∀ w', RK W0 B0 w0 L' w' → wpListIn F n0 P ops Q rest (a.put o.dst undef) w') : wpListIn F n0 P ops Q (o :: rest) a w := by
  have hy := xBt hy'
  obtain ⟨w', e, hR'⟩ := hR.storeCell (P := P) (ty := ty) h1 hs hn hl
  exact in_skip hg (by intro c; rw [ho]; exact fun h => nomatch h) (by unfold Oper.about; simp only [ho]) (by unfold execOp; simp only [ho, hx, hy, Instr.storeAt, Instr.sureAddr, Sem.run_bind, Sem.run_pure, Result.andThen_ok, e]) (h w' hR')
theorem in_alloc (hR : RK W0 B0 w0 L w) (hg : o.guard = none) {ty : TypeId} (ho : o.op = .alloc ty) {l : List Value} (hz : ZeroT P ty l)
    (h : ∀ b w', RK W0 B0 w0 ((b, .cells l.toArray ty) :: L) w' → wpListIn F n0 P ops Q rest (a.put o.dst (.pointer (some ⟨b, 0, none⟩))) w') : wpListIn F n0 P ops Q (o :: rest) a w := by
  obtain ⟨z, h1, h2⟩ := hz.is
  have hzv : (zeroValue ty).run P w = .ok z w := by
    cases hq : P.info? ty with
    | none => simp [hq] at h1
    | some i =>
      have : i.zero = some z := by simpa [hq] using h1
      simp [zeroValue, typeInfo, hq, this]
  have e : (Instr.alloc ty true (.tuple #[])).run P w = .ok (.pointer (some ⟨w.heap.size, 0, none⟩)) (w.alloc (.cells l.toArray ty)) := by
    simp only [Instr.alloc, Sem.run_bind, hzv, Result.andThen_ok, newVar, newRow, h2, newObj]
    rfl
  exact in_ok hg (by intro c; rw [ho]; exact fun h => nomatch h) (by unfold Oper.about; simp only [ho]) (by unfold execOp; simp only [ho, Sem.run_bind, e, Result.andThen_ok, Sem.run_pure]) (h _ _ ⟨hR.rep.alloc _, hR.kept.trans (KeepsOthers.alloc _ _)⟩)
end lists
end Go.Proofs.YtgfoeongjhkdmaaGreat
namespace Go.Proofs.YtgfoeongjhkdmaaGreat
open Go.RowKit
section
variable {α : Type} {F : Fence} {n : Nat} {P : Program}
def loopAt (D : Nat) (r : Loop) (W : World) : Prop := W.heap[D + 1]? = some (.loop r) ∧ W.heap[D]? = some (.deferred (some []))
theorem loopAt.grown {D : Nat} {r : Loop} {A B : World} {row : Option Nat} (h : loopAt D r A) (hg : A.grownBy B row) (hr : ∀ k, row = some k → ∃ o : Obj, A.heap[k]? = some o ∧ o.isWalk = true) : loopAt D r B :=
  ⟨(grownBy_keeps hg hr h.1 rfl).trans h.1, (grownBy_keeps hg hr h.2 rfl).trans h.2⟩
theorem loopAt.keeps {D : Nat} {r : Loop} {A B : World} (h : loopAt D r A) (hk : KeepsOthers A B) : loopAt D r B := ⟨hk.same _ _ h.1 rfl, hk.same _ _ h.2 rfl⟩
theorem loopAt.put {D : Nat} {r r' : Loop} {A : World} (h : loopAt D r A) : loopAt D r' (A.putObj (D + 1) (.loop r')) :=
  ⟨World.putObj_heap_same (Array.getElem?_eq_some_iff.1 h.1).1, (World.putObj_heap_other (by omega)).trans h.2⟩
theorem wpIn_rangeFunc_vars {g : Operand} {ps : Array Tmp} {assign body : Code} {Q : Exit → Act → World → Prop} {a : Act} {w : World}
    (hro : F.round = none) (h1 : 1 ≤ n) {gf : Nat} {lb : Array Value} (hg : a.eval g = .func (.func gf) #[] lb) (hFg : F.fn gf) (eg : ∀ args w, (callFunc gf args).run P w = .ok (.enter gf args) w)
    {encs : α → Array Value} {Kp : World → World → Prop} {S Sp : List α → Prop} {N : Nat} (hseq : SeqStopsK F (n - 1) P gf lb encs Kp S Sp N w)
    (hKt : ∀ {A B C : World}, Kp A B → Kp B C → Kp A C) (hKb : ∀ (W : World) (l : Nat) (o o' : Obj), w.heap.size ≤ l → W.heap[l]? = some o → o.isCells = false → o.isWalk = false → Kp W (W.putObj l o')) (hps : ∀ x, (encs x).size = ps.size)
    (I : List α → World → Prop) (I1 : List α → α → Act → World → Prop) (Ix : Code → List α → World → Prop) (hI : OwnFrom w.heap.size I) (hI1 : ∀ x b, OwnFrom w.heap.size fun pre W => I1 pre x b W) (hIx : ∀ c, OwnFrom w.heap.size (Ix c)) (h0 : I [] w)
    (hvars : ∀ (l : Nat) (pre : List α) (x : α) (W : World) (K : Act → World → Prop), I pre W → pre.length < N → (∀ b W', KeepsOthers W W' → Kp W W' → I1 pre x b W' → K b W') →
      assign.wpIn (F.inRound l) (n - 1 - 1) P (Exit.then K (fun _ _ _ => False)) { tmps := (ps.zip (encs x)).foldl (fun t (p, v) => t.setIfInBounds p v) a.tmps, defers := [] } W)
    (hbody : ∀ (l : Nat) (pre : List α) (x : α) (b : Act) (W : World), I1 pre x b W → body.wpIn (F.inRound l) (n - 1 - 1) P (ownPostK Kp I Ix (pre ++ [x]) W) b W)
    (hdone : ∀ (D : Nat) (xs : List α) (W : World), w.heap.size ≤ D → S xs → I xs W → W.heap[D]? = some (.deferred (some [])) → Q .normal { a with defers := { target := .collected D, args := #[] } :: a.defers } W)
    (hstop : ∀ (D : Nat) (c : Code) (pre : List α) (W : World), w.heap.size ≤ D → Sp pre → Ix c pre W → W.heap[D]? = some (.deferred (some [])) → c.wpIn F n P Q { a with defers := { target := .collected D, args := #[] } :: a.defers } W) :
    (Code.rangeFunc g ps assign body).wpIn F n P Q a w := by
  refine wpIn_rangeFunc ?_
  intro fn hfn
  rw [hro]
  obtain ⟨D, hD⟩ : ∃ D, w.heap.size = D := ⟨_, rfl⟩
  obtain ⟨st, hst⟩ : ∃ st : LoopState → Option Code → Loop, st = fun s c => { state := s, pending := c, fn, tmps := a.tmps, params := ps, assign, body, defers := D } := ⟨_, rfl⟩
  obtain ⟨W1, hW1⟩ : ∃ W1, (w.alloc (.deferred (some []))).alloc (.loop (st .ready none)) = W1 := ⟨_, rfl⟩
  have hs1 : W1.heap.size = D + 2 := by rw [← hW1]; simp [hD]
  have hL1 : loopAt D (st .ready none) W1 := by
    refine ⟨?_, ?_⟩
    · rw [← hW1, ← hD]
      have := World.alloc_heap_new (w.alloc (.deferred (some []))) (.loop (st .ready none))
      rwa [World.size_alloc] at this
    · rw [← hW1, ← hD]
      exact (Below.heap_alloc _ _ _ (by simp)).trans (World.alloc_heap_new w _)
  have hb1 : Below w.heap.size w W1 := by
    rw [← hW1]
    exact ((Below.refl _ w).alloc (Nat.le_refl _) _).alloc (by simp) _
  have hI0 : I [] W1 := by rw [← hW1]; exact hI.alloc _ (hI.alloc _ h0)
  have down : ∀ {A : World} {row : Option Nat}, (∀ r, row = some r → W1.heap.size ≤ r ∧ ∃ o : Obj, A.heap[r]? = some o ∧ o.isWalk = true) → ∀ r, row = some r → w.heap.size ≤ r ∧ ∃ o : Obj, A.heap[r]? = some o ∧ o.isCells = false := fun hr r e => by
    obtain ⟨h1, o, ho, hw⟩ := hr r e
    exact ⟨by rw [hs1] at h1; omega, o, ho, Obj.not_cells_of_walk hw⟩
  have lD : w.heap.size ≤ D + 1 := by omega
  refine ⟨D + 1, [{ target := .collected D, args := #[] }], W1, { target := .fn (.func gf) lb, args := #[.func (.yield (D + 1)) #[] #[]] }, W1, gf, #[.func (.yield (D + 1)) #[] #[]] ++ lb, W1, ?_, ?_, ?_, ?_, fun _ => h1, ?_⟩
  · rw [← hW1, hst, ← hD]; exact run_enterLoop_outer _ _ _ _ _
  · simp only [resolve, hg]
    simp [go_sem]
  · intro f' hf'
    simp [Target.leads] at hf'
    subst hf'
    exact hFg
  · simp [invoke, go_sem, eg]
  refine (hseq (D + 1) (fun pre W => I pre W ∧ loopAt D (st .ready none) W) (fun pre W => ∃ c, Ix c pre W ∧ loopAt D (st .done (some c)) W) W1 hb1
    (fun s A A' row hs hg' hr => ⟨hI s A A' row hs.1 hg' (down hr), hs.2.grown hg' fun r e => (hr r e).2⟩)
    (fun s A A' row ⟨c, hc, hl⟩ hg' hr => ⟨c, hIx c s A A' row hc hg' (down hr), hl.grown hg' fun r e => (hr r e).2⟩) ?round ⟨hI0, hL1⟩).mono ?behind
  case round =>
    rintro pre x W ⟨hi, hl⟩ hlen
    have hy := run_yield (P := P) (args := encs x) hl.1 (by rw [hst]; exact hps x)
    rw [hst] at hy
    refine ⟨fn, _, assign, body, hy, roundIn_of_wpIn hfn (hvars _ pre x W _ hi hlen fun b W' hk' hkp' hi' => ⟨_, run_beginRound (hl.keeps hk').1 (by rw [hst]), ?_⟩)⟩
    have hl' := hl.keeps hk'
    have hlb : loopAt D { st .ready none with state := .busy } (W'.putObj (D + 1) (.loop { st .ready none with state := .busy })) := hl'.put
    have hkb : Kp W' (W'.putObj (D + 1) (.loop { st .ready none with state := .busy })) := hKb _ _ _ _ lD hl'.1 rfl rfl
    refine wpIn_mono (hbody _ pre x b _ ((hI1 x b).putObj _ hi' lD hl'.1 rfl)) ?_
    have fin : ∀ (jump : Option Code) (W3 : World), KeepsOthers (W'.putObj (D + 1) (.loop { st .ready none with state := .busy })) W3 →
        (Instr.endRound (D + 1) jump).run P W3 = .ok (.bool jump.isNone) (W3.putObj (D + 1) (.loop (st (if jump.isNone then .ready else .done) jump))) ∧ loopAt D { st .ready none with state := .busy } W3 ∧
        loopAt D (st (if jump.isNone then .ready else .done) jump) (W3.putObj (D + 1) (.loop (st (if jump.isNone then .ready else .done) jump))) := fun jump W3 hk3 => by
      have hl3 := hlb.keeps hk3
      have e := run_endRound (P := P) jump hl3.1
      refine ⟨?_, hl3, hl3.put⟩
      rw [hst] at e ⊢
      exact e
    rintro e a3 W3 hp
    have leave : ∀ c : Code, KeepsOthers (W'.putObj (D + 1) (.loop { st .ready none with state := .busy })) W3 ∧ Ix c (pre ++ [x]) W3 → ∃ v W4, (Instr.endRound (D + 1) (some c)).run P W3 = .ok v W4 ∧ (v = .bool false ∧ ∃ c, Ix c (pre ++ [x]) W4 ∧ loopAt D (st .done (some c)) W4) := fun c ⟨hk3, hi3⟩ => by
      obtain ⟨hr, hl3, hl4⟩ := fin (some c) W3 hk3
      exact ⟨_, _, hr, rfl, c, (hIx c).putObj _ hi3 lD hl3.1 rfl, hl4⟩
    cases e with
    | normal =>
      obtain ⟨hk3, hkp3, hi3⟩ := hp
      obtain ⟨hr, hl3, hl4⟩ := fin none W3 hk3
      exact ⟨_, _, hr, .inl ⟨rfl, ⟨hI.putObj _ hi3 lD hl3.1 rfl, hl4⟩, hKt (hKt (hKt hkp' hkb) hkp3) (hKb _ _ _ _ lD hl3.1 rfl rfl)⟩⟩
    | ret =>
      obtain ⟨v, W4, hr, rfl, h4⟩ := leave .ret hp
      exact ⟨_, _, hr, .inr ⟨rfl, h4⟩⟩
    | exit id =>
      obtain ⟨v, W4, hr, rfl, h4⟩ := leave (.exit id) hp
      exact ⟨_, _, hr, .inr ⟨rfl, h4⟩⟩
    | goto t =>
      obtain ⟨v, W4, hr, rfl, h4⟩ := leave (.goto t) hp
      exact ⟨_, _, hr, .inr ⟨rfl, h4⟩⟩
    | panic ch => exact hp.elim
    | outgrown => exact hp.elim
  case behind =>
    rintro e W2 ⟨⟨v, rfl⟩, (⟨xs, hS, hi, hl⟩ | ⟨pre, hSp, c, hi, hl⟩)⟩
    · have e := run_endLoop (P := P) hl.1 (by rw [hst]; simp)
      rw [hst] at e
      exact ⟨none, _, e, hdone _ xs _ (by omega) hS (hI.putObj _ hi lD hl.1 rfl) ((World.putObj_heap_other (by omega)).trans hl.2)⟩
    · have e := run_endLoop (P := P) hl.1 (by rw [hst]; simp)
      rw [hst] at e
      exact ⟨some c, _, e, hstop _ c pre _ (by omega) hSp ((hIx c).putObj _ hi lD hl.1 rfl) ((World.putObj_heap_other (by omega)).trans hl.2)⟩
end
end Go.Proofs.YtgfoeongjhkdmaaGreat
