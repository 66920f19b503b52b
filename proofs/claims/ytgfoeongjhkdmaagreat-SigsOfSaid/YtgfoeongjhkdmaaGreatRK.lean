/- More laws of drawn regions: classes of worlds that are told up to some value; steps that write beside steps that make. -/
import Derived.ArgAppend
import Derived.Test.YtgfoeongjhkdmaaGreatRA
import Derived.Test.YtgfoeongjhkdmaaGreatRG
import Derived.Test.YtgfoeongjhkdmaaGreatRE
import Derived.Test.YtgfoeongjhkdmaaGreatRJ
set_option linter.unusedVariables false
set_option linter.unusedSimpArgs false
namespace Go.Proofs.YtgfoeongjhkdmaaGreat
open Go.RowKit
section
variable {P : Program} {ops : Array Oper} {B0 : Nat} {w0 : World} {tl : List Nat} {Kp : List (Nat × Obj)} {Q : Exit → Act → World → Prop} {L L' : List (Nat × Obj)}
theorem cut_code {c : Code} {l : List Value} {d : List Deferred} {w : World} (R : List Value → List Value → World → Prop)
    (h1 : ∀ Q' : Act → World → Prop, Held (∀ tm w', R l tm w' → Q' ⟨tm.toArray, d⟩ w') → c.wp P (Exit.then Q' fun _ _ _ => False) ⟨l.toArray, d⟩ w)
    (h2 : ∀ tm w', R l tm w' → Q .normal ⟨tm.toArray, d⟩ w') : c.wp P Q ⟨l.toArray, d⟩ w := by
  refine Code.wp_mono (fun e a w' h => ?_) (h1 (fun a w' => Q .normal a w') ⟨h2⟩)
  cases e <;> first | exact h | exact h.elim
theorem wp_region_ordC {id : Nat} {w : World} {l : List Oper} {a : Act} (C : World → Prop) (hC : C w.drew) (ts : List Nat) (hm : P.follows .mixedOrders = true) (hB : ordOK l.toArray (xCf 0 ts) (tlFrom 0 ts) = true) (hlen : ts.length = l.length) (hlen2 : (xCf 0 ts).length + (tlFrom 0 ts).length = l.length)
    (h : ∀ K : List Oper → Act → Prop, (∀ tl a', tailM P l.toArray (fun _ => True) Q tl C a' → K tl a') → xCm P l.toArray (fun _ => True) C K ts l [] a) : (Code.region id l.toArray true).wp P Q a w := by
  have h := h _ (fun _ _ h => h)
  refine wp_region_any hm ?_
  have hlt : ∀ t ∈ tlFrom 0 ts, t < l.toArray.size := fun t ht => by
    simp only [ordOK, Bool.and_eq_true] at hB
    have := List.all_eq_true.1 hB.2 t ht
    simp only [Bool.and_eq_true, decide_eq_true_eq] at this
    exact this.1
  have := wpAny_ord (w := w.drew) (Q := Q) (xCf 0 ts) (tlFrom 0 ts) hB hC trivial (headW_of_M (K := tailW P l.toArray (fun _ => True) Q (tlFrom 0 ts) C) ts l [] 0 a hlen (fun j => by simp) (fun a' ha' => tailW_of_M _ _ a' hlt (by simpa using ha')) h)
  rw [hlen2] at this
  simpa using this
section
variable {ts : List Nat} {r acc : List Oper} {o : Oper} {a : Act} {K : List Oper → Act → Prop} {I : (World → Prop) → Prop} {C C' : World → Prop}
theorem hd_callC (hw : Region.wanted o (yielded ops a.tmps) = true) {f : FuncId} {x : Operand} {xs : List Operand} {us : Array TypeId} (hop : o.op = .call { callee := .value x, args := xs.toArray, argTypes := us }) {caps : List Value} (hf : ev a x = some (.func (.func f) #[] caps.toArray)) {vs : List Value} {v : Value} (hx' : evL a xs = some vs)
    (hent : ∀ w, (callFunc f (vs ++ caps).toArray).run P w = .ok (.enter f (vs ++ caps).toArray) w) (hq : ∀ w, C w → Calls P f (vs ++ caps).toArray w fun e w' => e = .returned v ∧ C w')
    {a' : Act} (ha : a.put o.dst v = a') (h : xCm P ops I C K ts r acc a') : xCm P ops I C K (0 :: ts) (o :: r) acc a :=
  hd_step hw (fun w hR => by
    have e : (execOp a.eval o).run P w = .ok (.enter f (vs ++ caps).toArray) w := by
      have hx := xDb hx'
      have hf := xBt hf
      unfold execOp
      simp only [hop, resolve, Deferred.ofValue, hf, Sem.run_bind, Sem.run_pure, Result.andThen_ok, hx]
      have := hent w
      simpa [invoke] using this
    rw [e]
    exact (hq w hR).mono fun e' w' ⟨he, hb⟩ => ⟨he, hb⟩) ha h
theorem hd_loadC (hw : Region.wanted o (yielded ops a.tmps) = true) {ty : TypeId} {x : Operand} (hop : o.op = .load ty x) {ad : Addr} (hx : a.eval x = .pointer (some ad)) {v : Value} (hq : ∀ w, C w → (loadVar ty ad).run P w = .ok v w)
    {a' : Act} (ha : a.put o.dst v = a') (h : xCm P ops I C K ts r acc a') : xCm P ops I C K (0 :: ts) (o :: r) acc a :=
  hd_step hw (fun w hR => by
    unfold execOp
    simp only [hop, hx, Instr.loadAt, Instr.sureAddr, Sem.run_bind, Sem.run_pure, Result.andThen_ok, hq w hR]
    exact ⟨rfl, hR⟩) ha h
theorem tl_stepC (hw : Region.wanted o (yielded ops a.tmps) = true) {v : Value} (hq : ∀ w, C w → uponTo P C' v ((execOp a.eval o).run P w)) {a' : Act} (ha : a.put o.dst v = a') (h : tailM P ops (fun _ => True) Q r C' a') : tailM P ops (fun _ => True) Q (o :: r) C a :=
  ⟨v, C', .inl ⟨hw, hq⟩, trivial, by rw [ha]; exact h⟩
theorem tl_moveC (hw : Region.wanted o (yielded ops a.tmps) = true) {x : Operand} (hop : o.op = .move x ∨ o.op = .assign x) {v : Value} (hx' : ev a x = some v) {a' : Act} (ha : a.put o.dst v = a') (h : tailM P ops (fun _ => True) Q r C a') : tailM P ops (fun _ => True) Q (o :: r) C a :=
  tl_stepC hw (fun w hR => by
    have hx := xBt hx'
    unfold execOp
    subst hx
    rcases hop with h | h <;> rw [h] <;> exact ⟨rfl, hR⟩) ha h
theorem tl_storeC (C' : World → Prop) (hw : Region.wanted o (yielded ops a.tmps) = true) {ty : TypeId} {x y : Operand} (hop : o.op = .store ty x y) {ad : Addr} (hx : a.eval x = .pointer (some ad)) {v : Value} (hy : a.eval y = v) (hq : ∀ w, C w → ∃ w', (storeVar ty ad v).run P w = .ok () w' ∧ C' w')
    {a' : Act} (ha : a.put o.dst undef = a') (h : tailM P ops (fun _ => True) Q r C' a') : tailM P ops (fun _ => True) Q (o :: r) C a :=
  tl_stepC hw (fun w hR => by
    obtain ⟨w', e, hR'⟩ := hq w hR
    unfold execOp
    simp only [hop, hx, hy, Instr.storeAt, Instr.sureAddr, Sem.run_bind, Sem.run_pure, Result.andThen_ok, e]
    exact ⟨rfl, hR'⟩) ha h
end
section
variable {o : Oper} {a : Act}
theorem wanted_of {o : Oper} (hg : o.guard = none) (y : Nat → Option Bool) : Region.wanted o y = true := by simp [Region.wanted, hg]
theorem isNew_allocR {ty : TypeId} {l : List Value} [hz : ZeroT P ty l] (hg : o.guard = none) (hop : o.op = .alloc ty) : IsNew P o a (.cells l.toArray ty) (fun b => .pointer (some ⟨b, 0, none⟩)) :=
  ⟨hg, fun w => by
    obtain ⟨z, h1, h2⟩ := hz.is
    have hzv : (zeroValue ty).run P w = .ok z w := by
      cases hq : P.info? ty with
      | none => simp [hq] at h1
      | some i =>
        have : i.zero = some z := by simpa [hq] using h1
        simp [zeroValue, typeInfo, hq, this]
    have e : (Instr.alloc ty true (.tuple #[])).run P w = .ok (.pointer (some ⟨w.heap.size, 0, none⟩)) (w.alloc (.cells l.toArray ty)) := by
      simp only [Instr.alloc, Sem.run_bind, hzv, Result.andThen_ok, newVar, newRow, h2, newObj]
      rfl
    unfold execOp
    simp only [hop, Sem.run_bind, e, Result.andThen_ok, Sem.run_pure]⟩
theorem isNew_one {ty el : TypeId} {x : Operand} {v : Value} (hg : o.guard = none) (hop : o.op = .buildSlice ty 1 #[(0, x)]) (hx : ev a x = some v) (hrun : ∀ w, (Instr.buildSlice ty 1 #[(0, v)]).run P w = .ok (.slice (some ⟨w.heap.size, 0, none⟩) 1 1) (w.alloc (.cells [v].toArray el))) : IsNew P o a (.cells [v].toArray el) (fun b => .slice (some ⟨b, 0, none⟩) 1 1) :=
  ⟨hg, fun w => by
    have hx := xBt hx
    unfold execOp
    simp only [hop, List.map_toArray, List.map_cons, List.map_nil, hx, hrun, Sem.run_bind, Result.andThen_ok, Sem.run_pure]⟩
theorem yields_call (hg : o.guard = none) {f : FuncId} {xs : List Operand} {us : Array TypeId} (hop : o.op = .call { callee := .value (.func f), args := xs.toArray, argTypes := us }) {vs : List Value} {v : Value} (hx' : evL a xs = some vs)
    (hent : ∀ w, (callFunc f vs.toArray).run P w = .ok (.enter f vs.toArray) w) (hq : ∀ w, Rep B0 w0 L w → Calls P f vs.toArray w fun e w' => e = .returned v ∧ Rep B0 w0 L' w') : xBy P ops o v a (Rep B0 w0 L) (Rep B0 w0 L') :=
  .inl ⟨wanted_of hg _, fun w hR => by
    have e : (execOp a.eval o).run P w = .ok (.enter f vs.toArray) w := by
      have hx := xDb hx'
      unfold execOp
      simp only [hop, resolve, Deferred.ofValue, Act.eval, Sem.run_bind, Sem.run_pure, Result.andThen_ok, hx]
      have := hent w
      simpa [invoke] using this
    rw [e]
    exact (hq w hR).mono fun e' w' ⟨he, hb⟩ => ⟨he, hb⟩⟩
theorem xDf (hg : o.guard = none) {ty : TypeId} {x y : Operand} (hop : o.op = .store ty x y) {n : Nat} {b : Nat} (hx : ev a x = some (.pointer (some ⟨b, 0, none⟩))) (hT : RowT P ty n) {l vs : List Value} {t : TypeId}
    (hy : ev a y = some (.agg vs.toArray)) (h1 : vs.all (·.oneCell') = true) (hvn : vs.length = n) (hn : l.length = n) (hs : xAx L b (.cells l.toArray t) (.cells vs.toArray t) L') : xBy P ops o undef a (Rep B0 w0 L) (Rep B0 w0 L') :=
  .inl ⟨wanted_of hg _, fun w hR => by
    have hx := xBt hx
    have hy := xBt hy
    obtain ⟨w', e, hR'⟩ := hR.storeRow (P := P) (ty := ty) (off := 0) h1 hvn hs (by omega) (by simp [← hn])
    unfold execOp
    simp only [hop, hx, hy, Instr.storeAt, Instr.sureAddr, Sem.run_bind, Sem.run_pure, Result.andThen_ok, e]
    exact ⟨rfl, hR'⟩⟩
theorem yields_append1 (hg : o.guard = none) {s x : Operand} {t E : TypeId} (hop : o.op = .call { callee := .builtin .append, args := #[s, x], argTypes := #[t, t] }) (ht : P.underlying t = some (.slice E)) [hc : CellT P E]
    {A sb n : Nat} {l : List Value} {u v : Value} (hs : ev a s = some (.slice (some ⟨A, 0, none⟩) n (n + 1))) (hx : ev a x = some (.slice (some ⟨sb, 0, none⟩) 1 1)) (hl : l.length = n) (h1 : v.oneCell' = true) (hm : (sb, Obj.cells [v].toArray E) ∈ L) (hset : xAx L A (.cells (l ++ [u]).toArray E) (.cells (l ++ [v]).toArray E) L') : xBy P ops o (.slice (some ⟨A, 0, none⟩) (n + 1) (n + 1)) a (Rep B0 w0 L) (Rep B0 w0 L') :=
  .inl ⟨wanted_of hg _, fun w hR => by
    have hs := xBt hs
    have hx := xBt hx
    obtain ⟨d, hu, hd, hi⟩ := hc.is
    cases hq : P.info? E with
    | none => simp [hq] at hi
    | some i =>
      have hs1 : i.size = 1 := by simpa [hq] using hi
      obtain ⟨hR', hth⟩ := hR.storeCells (off := n) (vs := [v]) (l := l ++ [u]) (l' := l ++ [v]) hset (by simp; omega) (by subst hl; simp)
      have hrun := run_append_room_cells (P := P) w t o.type E i ht hq A 0 n (n + 1) ⟨sb, 0, none⟩ 1 1 [v] (by simp [hs1]) (fun j z hj => by
        match j, hj with
        | 0, hj =>
          obtain rfl : v = z := Option.some.inj hj
          have := hR.cell (off := 0) (l := [v]) hm rfl
          simpa [Addr.add] using this) (fun z hz => by rw [List.mem_singleton.1 hz]; exact h1) (Nat.le_refl _) (fun j hj => by have := (hth j hj).1; simpa [hs1] using this) (fun j hj => by have := (hth j hj).2; simpa [hs1] using this)
      unfold execOp
      simp only [hop, resolve, invoke, builtin, Sem.run_bind, Sem.run_pure, Result.andThen_ok, List.map_toArray, List.map_cons, List.map_nil, hs, hx, hrun]
      refine ⟨rfl, ?_⟩
      simpa [hs1] using hR'⟩
end
def stepsN (P : Program) (ops : Array Oper) (B0 : Nat) (w0 : World) (tl : List Nat) (Kp : List (Nat × Obj)) (Q : Exit → Act → World → Prop) (n : Nat) (listed : Array Bool) (a : Act) (L : List (Nat × Obj)) : List Nat → Prop
  | [] => True
  | i :: r => (∃ o, ops[i]? = some o ∧
      ((∃ ob mk, IsNew P o a ob mk ∧ ∀ b, xCx P ops B0 w0 tl Kp Q n (listed.setIfInBounds i true) (a.put o.dst (mk b)) ((b, ob) :: L)) ∨
       (∃ v L', xBy P ops o v a (Rep B0 w0 L) (Rep B0 w0 L') ∧ (i ∉ tl → ∀ p, p ∈ Kp → p ∈ L') ∧ xCx P ops B0 w0 tl Kp Q n (listed.setIfInBounds i true) (a.put o.dst v) L'))) ∧ stepsN P ops B0 w0 tl Kp Q n listed a L r
theorem stepsN_all {n : Nat} {listed : Array Bool} {a : Act} : ∀ {is : List Nat}, stepsN P ops B0 w0 tl Kp Q n listed a L is → ∀ i ∈ is, ∃ o, ops[i]? = some o ∧
      ((∃ ob mk, IsNew P o a ob mk ∧ ∀ b, xCx P ops B0 w0 tl Kp Q n (listed.setIfInBounds i true) (a.put o.dst (mk b)) ((b, ob) :: L)) ∨
       (∃ v L', xBy P ops o v a (Rep B0 w0 L) (Rep B0 w0 L') ∧ (i ∉ tl → ∀ p, p ∈ Kp → p ∈ L') ∧ xCx P ops B0 w0 tl Kp Q n (listed.setIfInBounds i true) (a.put o.dst v) L'))
  | [], _, i, hi => nomatch hi
  | _ :: _, h, i, hi => by
    rcases List.mem_cons.1 hi with rfl | hi
    · exact h.1
    · exact stepsN_all h.2 i hi
theorem news_at {n : Nat} {listed : Array Bool} {a : Act} (is : List Nat) (hr : decide (Region.ready .any ops listed = is) = true) (hne : is.isEmpty = false) (h : stepsN P ops B0 w0 tl Kp Q n listed a L is) : xCx P ops B0 w0 tl Kp Q (n + 1) listed a L := by
  have hr := oD hr
  refine ⟨fun h0 => (by rw [h0] at hr; subst hr; cases hne), fun k hk => ?_⟩
  rw [hr] at hk
  exact stepsN_all h k hk
theorem steps_nil {n : Nat} {listed : Array Bool} {a : Act} : stepsN P ops B0 w0 tl Kp Q n listed a L [] := trivial
theorem steps_new {n : Nat} {listed : Array Bool} {a : Act} {i : Nat} {r : List Nat} {oi : Oper} {di : Tmp} {ob : Obj} {mk : Nat → Value} (hoi : ops[i]? = some oi) (hdi : oi.dst = some di) (hai : IsNew P oi a ob mk) (h : ∀ b, xCx P ops B0 w0 tl Kp Q n (listed.setIfInBounds i true) (a.put (some di) (mk b)) ((b, ob) :: L))
    (hr : stepsN P ops B0 w0 tl Kp Q n listed a L r) : stepsN P ops B0 w0 tl Kp Q n listed a L (i :: r) := by
  rw [← hdi] at h
  exact ⟨⟨oi, hoi, .inl ⟨ob, mk, hai, h⟩⟩, hr⟩
theorem steps_y {n : Nat} {listed : Array Bool} {a : Act} {i : Nat} {r : List Nat} {oi : Oper} {di : Tmp} {v : Value} (hoi : ops[i]? = some oi) (hdi : oi.dst = some di) (hy : xBy P ops oi v a (Rep B0 w0 L) (Rep B0 w0 L')) (hk : ∀ p, p ∈ Kp → p ∈ L')
    (h : xCx P ops B0 w0 tl Kp Q n (listed.setIfInBounds i true) (a.put (some di) v) L') (hr : stepsN P ops B0 w0 tl Kp Q n listed a L r) : stepsN P ops B0 w0 tl Kp Q n listed a L (i :: r) := by
  rw [← hdi] at h
  exact ⟨⟨oi, hoi, .inr ⟨v, L', hy, fun _ => hk, h⟩⟩, hr⟩
theorem steps_s {n : Nat} {listed : Array Bool} {a : Act} {i : Nat} {r : List Nat} {oi : Oper} {v : Value} (hoi : ops[i]? = some oi) (hdi : oi.dst = none) (hy : xBy P ops oi v a (Rep B0 w0 L) (Rep B0 w0 L')) (hk : ∀ p, p ∈ Kp → p ∈ L')
    (h : xCx P ops B0 w0 tl Kp Q n (listed.setIfInBounds i true) a L') (hr : stepsN P ops B0 w0 tl Kp Q n listed a L r) : stepsN P ops B0 w0 tl Kp Q n listed a L (i :: r) := by
  refine ⟨⟨oi, hoi, .inr ⟨v, L', hy, fun _ => hk, ?_⟩⟩, hr⟩
  rw [hdi]
  exact h
theorem step_is (i : Nat) {n : Nat} {listed : Array Bool} {a : Act} {r : List Nat} (h : stepsN P ops B0 w0 tl Kp Q n listed a L (i :: r)) : stepsN P ops B0 w0 tl Kp Q n listed a L (i :: r) := h
theorem news_end {listed : Array Bool} {a : Act} (hr : decide (Region.ready .any ops listed = []) = true) (h : ∀ w, Rep B0 w0 L w → Q .normal a w) : xCx P ops B0 w0 tl Kp Q 0 listed a L := ⟨oD hr, h⟩
end
end Go.Proofs.YtgfoeongjhkdmaaGreat
namespace Go.Proofs.YtgfoeongjhkdmaaGreat
open Go.RowKit
attribute [local irreducible] Calls
noncomputable def geN (xs : List Nat) : Nat → Nat := opq fun i => (List.range i).foldl (fun n j => n * 256 + xs.getD j 0) 0
theorem geN_zero (xs : List Nat) : geN xs 0 = 0 := by unfold geN; rw [xCe]; rfl
theorem geN_succ (xs : List Nat) (i : Nat) : geN xs (i + 1) = geN xs i * 256 + xs.getD i 0 := by
  unfold geN; rw [xCe, List.range_succ, List.foldl_append]; rfl
theorem geN_lt (xs : List Nat) (hb : ∀ j, xs.getD j 0 < 256) : ∀ i, geN xs i < 256 ^ i
  | 0 => by rw [geN_zero]; exact Nat.one_pos
  | i + 1 => by
    have := geN_lt xs hb i
    have := hb i
    rw [geN_succ, Nat.pow_succ]
    omega
theorem u64_or (a b : Nat) (ha : a < 18446744073709551616) (hb : b < 18446744073709551616) : bits .or .u64 (a : Int) (b : Int) = ((a ||| b : Nat) : Int) :=
  (bits_nat .u64 64 (by decide) (fun n h0 h1 => by rw [IntKind.wrap_u64]; omega) a b ha hb).2
section
variable {B0 : Nat} {w0 w : World} {L : List (Nat × Obj)}
set_option maxRecDepth 100000 in
set_option maxHeartbeats 4000000 in
theorem get_8 (v : Value) (xs : List Nat) (h8 : 8 ≤ xs.length) (hv : xBo B0 w0 [] v xs) (hR : Rep B0 w0 L w) :
    Calls Tryz.prog 89 #[v, .int .i64 8] w fun e w' => e = .returned (.tuple #[.int .u64 (geN xs 8 : Nat), .int .i64 0]) ∧ Rep B0 w0 L w' := by
  obtain ⟨v1, hcut, hv1⟩ := cut_low hv h8
  have e8 : ((8 : Nat) : Int) = 8 := rfl
  rw [e8] at hcut
  obtain ⟨a, cp, rfl, h1, h2, h3, h4⟩ := hv
  obtain ⟨N, hN⟩ : ∃ N, xs.length = N := ⟨_, rfl⟩
  rw [hN] at h1 hcut ⊢
  have g1 : ¬ (N : Int) < 8 := by omega
  have g1' : decide ((N : Int) < 8) = false := decide_eq_false g1
  obtain ⟨a1, c1, rfl, k1, k2, k3, k4⟩ := hv1
  have hl : (xs.take 8).length = 8 := by simp; omega
  rw [hl] at hcut k1 k4
  have hx : ∀ j, j < 8 → (xs.take 8).getD j 0 = xs.getD j 0 := fun j hj => xDh xs 8 j hj
  have hne : xs.take 8 ≠ [] := fun h => by rw [h] at hl; cases hl
  obtain ⟨n8, hn8⟩ : ∃ n, geN xs 8 = n := ⟨_, rfl⟩
  rw [hn8]
  obtain ⟨bb, off, rfl, k5⟩ := k4 hne
  have hlt := geN_lt xs h3
  replace hN := Held.mk hN
  replace hn8 := Held.mk hn8
  clear k4 k3 hne hl h4 e8
  go_enter Tryz.func89, Tryz.ntmps89
  go_wp2_with (first | (refine' xAb hR rfl rfl rfl ?_; clear hR; intro blk w hR) | (refine' xAa hR rfl rfl inferInstance ?_; clear hR; intro blk w hR) | (refine' aFq hR rfl rfl rfl inferInstance ?_) | (refine' aGq hR rfl rfl rfl inferInstance ?_) | (refine' aHq hR rfl rfl rfl inferInstance ?_) | (refine' aDq hR rfl rfl rfl inferInstance rfl ?_; clear hR; intro w hR) | (refine' aEq hR rfl rfl rfl inferInstance rfl rfl ?_; clear hR; intro w hR) | (refine' xAy hR rfl rfl rfl inferInstance ?hm ?hn ?_; (case hm => first | with_reducible assumption | repeat (first | exact .head _ | with_reducible assumption | apply mC)); (case hn => first | rfl | simp)) | (refine' xAt hR rfl rfl rfl inferInstance ?hm ?hv ?_; (case hm => first | with_reducible assumption | repeat (first | exact .head _ | with_reducible assumption | apply mC)); (case hv => first | rfl | with_reducible assumption)) | fail)
  refine' xCc (false :: false :: false :: false :: false :: false :: false :: true :: false :: false :: false :: false :: false :: false :: false :: false :: false :: false :: false :: false :: false :: false :: false :: false :: false :: true :: true :: true :: true :: true :: true :: true :: true :: true :: false :: []) (fun (i : Nat) l => (l.set 4 (.int .u64 ((geN xs i : Nat) : Int))).set 24 (.int .i64 (i : Int))) (fun _ => L) (fun i => 8 - i) (fun i => i ≤ 8) 0 ?h0 ?hO ?hR ?hs
  case h0 =>
    simp only [geN_zero]
    exact xAu rfl rfl rfl
  case hO => exact Nat.zero_le _
  case hR => exact hR
  case hs =>
    clear hR
    intro i tm w hi ht hR K hK
    have g0 : 0 ≤ (i : Int) := by omega
    by_cases hi8 : i = 8
    · subst hi8
      clear hK
      have e8 : ((8 : Nat) : Int) = 8 := rfl
      rw [e8, hn8.out] at ht
      clear e8
      repeat (first | (obtain ⟨x, tm', e, ht'⟩ := xAf ht; clear ht; subst e; have ht := ht'; clear ht') | (obtain ⟨tm', e, ht'⟩ := xAc ht; clear ht; subst e; have ht := ht'; clear ht'))
      obtain rfl := xAk ht
      clear ht
      go_wp2_with (first | (refine' xAb hR rfl rfl rfl ?_; clear hR; intro blk w hR) | (refine' xAa hR rfl rfl inferInstance ?_; clear hR; intro blk w hR) | (refine' aFq hR rfl rfl rfl inferInstance ?_) | (refine' aGq hR rfl rfl rfl inferInstance ?_) | (refine' aHq hR rfl rfl rfl inferInstance ?_) | (refine' aDq hR rfl rfl rfl inferInstance rfl ?_; clear hR; intro w hR) | (refine' aEq hR rfl rfl rfl inferInstance rfl rfl ?_; clear hR; intro w hR) | fail)
      go_ret2
      exact ⟨rfl, hR⟩
    · have g2 : (i : Int) < 8 := by omega
      have hld := cell_load (ty := 5) (k5 w hR.bare i (by omega))
      rw [hx i (by omega)] at hld
      have es := geN_succ xs i
      have hb := h3 i
      have hl := hlt i
      generalize xs.getD i 0 = c at *
      have hl2 : geN xs i * 256 < 18446744073709551616 := by
        have : 256 ^ i ≤ 256 ^ 7 := Nat.pow_le_pow_right (by decide) (by omega)
        have : (256 : Nat) ^ 7 = 72057594037927936 := by decide
        omega
      generalize hn2 : geN xs (i + 1) = n2 at *
      generalize geN xs i = n1 at *
      have eo : bits BinOp.or IntKind.u64 ((n1 : Int) * 256) (c : Int) = (n2 : Int) := by
        have e1 : (n1 : Int) * 256 = ((2 ^ 8 * n1 : Nat) : Int) := by omega
        rw [e1, u64_or _ _ (by omega) (by omega), ← Nat.two_pow_add_eq_or_of_lt (i := 8) (by omega) n1, es]
        omega
      replace hn2 := Held.mk hn2
      replace es := Held.mk es
      have ei : IntKind.i64.wrap ((i : Int) + 1) = ((i + 1 : Nat) : Int) := by rw [IntKind.wrap_i64]; omega
      repeat (first | (obtain ⟨x, tm', e, ht'⟩ := xAf ht; clear ht; subst e; have ht := ht'; clear ht') | (obtain ⟨tm', e, ht'⟩ := xAc ht; clear ht; subst e; have ht := ht'; clear ht'))
      obtain rfl := xAk ht
      clear ht
      go_wp2_with (first | (refine' xAb hR rfl rfl rfl ?_; clear hR; intro blk w hR) | (refine' xAa hR rfl rfl inferInstance ?_; clear hR; intro blk w hR) | (refine' aFq hR rfl rfl rfl inferInstance ?_) | (refine' aGq hR rfl rfl rfl inferInstance ?_) | (refine' aHq hR rfl rfl rfl inferInstance ?_) | (refine' aDq hR rfl rfl rfl inferInstance rfl ?_; clear hR; intro w hR) | (refine' aEq hR rfl rfl rfl inferInstance rfl rfl ?_; clear hR; intro w hR) | (refine' xCg rfl rfl rfl hld ?_))
      exact hK.out (i + 1) _ _ (by omega) (by omega) (by simp only [hn2.out]; exact xAu rfl rfl rfl) hR
noncomputable def longN : List Nat → Nat := opq fun xs => ofW (geN (xs.drop 24) 8) (geN (xs.drop 16) 8) (geN (xs.drop 8) 8) (geN xs 8)
theorem longN_def (xs : List Nat) : longN xs = ofW (geN (xs.drop 24) 8) (geN (xs.drop 16) 8) (geN (xs.drop 8) 8) (geN xs 8) := by unfold longN; rw [xCe]
theorem getD_drop' (xs : List Nat) (k j : Nat) : (xs.drop k).getD j 0 = xs.getD (k + j) 0 := by
  rw [List.getD_eq_getElem?_getD, List.getElem?_drop, ← List.getD_eq_getElem?_getD]
theorem geN_lt8 (xs : List Nat) (hb : ∀ j, xs.getD j 0 < 256) (k : Nat) : geN (xs.drop k) 8 < 18446744073709551616 := by
  have := geN_lt (xs.drop k) (fun j => by rw [getD_drop']; exact hb _) 8
  have e : (256 : Nat) ^ 8 = 18446744073709551616 := by decide
  omega
theorem longN_lt (xs : List Nat) (hb : ∀ j, xs.getD j 0 < 256) : longN xs < B := by
  rw [longN_def]
  exact ofW_lt _ _ _ _ (geN_lt8 xs hb 24) (geN_lt8 xs hb 16) (geN_lt8 xs hb 8) (by have := geN_lt8 xs hb 0; rwa [List.drop_zero] at this)
theorem longN_nl (xs : List Nat) (hb : ∀ j, xs.getD j 0 < 256) : nl (longN xs) = [.int .u64 (geN (xs.drop 24) 8 : Nat), .int .u64 (geN (xs.drop 16) 8 : Nat), .int .u64 (geN (xs.drop 8) 8 : Nat), .int .u64 (geN xs 8 : Nat)] := by
  rw [longN_def]
  exact nl_ofW _ _ _ _ (geN_lt8 xs hb 24) (geN_lt8 xs hb 16) (geN_lt8 xs hb 8) (by have := geN_lt8 xs hb 0; rwa [List.drop_zero] at this)
set_option maxRecDepth 100000 in
set_option maxHeartbeats 4000000 in
theorem get_long (v : Value) (xs : List Nat) (h32 : xs.length = 32) (hv : xBo w.heap.size w [] v xs) :
    Calls Tryz.prog 56 #[v] w fun e w' => e = .returned (.tuple #[num (longN xs), .int .i64 0]) ∧ Below w.heap.size w w' := by
  have hR := Rep.init w
  have hb : ∀ j, xs.getD j 0 < 256 := by obtain ⟨_, _, _, _, _, h, _⟩ := hv; exact h
  obtain ⟨v0, hc0, hv0⟩ := cut_high hv (k := 0) (by omega)
  obtain ⟨v1, hc1, hv1⟩ := cut_high hv (k := 8) (by omega)
  obtain ⟨v2, hc2, hv2⟩ := cut_high hv (k := 16) (by omega)
  obtain ⟨v3, hc3, hv3⟩ := cut_high hv (k := 24) (by omega)
  have e0 : ((0 : Nat) : Int) = 0 := rfl
  have e8 : ((8 : Nat) : Int) = 8 := rfl
  have e16 : ((16 : Nat) : Int) = 16 := rfl
  have e24 : ((24 : Nat) : Int) = 24 := rfl
  rw [e0] at hc0
  rw [e8] at hc1
  rw [e16] at hc2
  rw [e24] at hc3
  rw [List.drop_zero] at hv0
  have c0 := fun (L : List (Nat × Obj)) (w' : World) (hR : Rep w.heap.size w L w') => get_8 v0 xs (by omega) hv0 hR
  have c1 := fun (L : List (Nat × Obj)) (w' : World) (hR : Rep w.heap.size w L w') => get_8 v1 (xs.drop 8) (by simp; omega) hv1 hR
  have c2 := fun (L : List (Nat × Obj)) (w' : World) (hR : Rep w.heap.size w L w') => get_8 v2 (xs.drop 16) (by simp; omega) hv2 hR
  have c3 := fun (L : List (Nat × Obj)) (w' : World) (hR : Rep w.heap.size w L w') => get_8 v3 (xs.drop 24) (by simp; omega) hv3 hR
  have hnl := longN_nl xs hb
  generalize geN (xs.drop 24) 8 = n3 at *
  generalize geN (xs.drop 16) 8 = n2 at *
  generalize geN (xs.drop 8) 8 = n1 at *
  generalize geN xs 8 = n0 at *
  generalize longN xs = ln at *
  obtain ⟨a, cp, rfl, _⟩ := hv
  rw [h32] at hc0 hc1 hc2 hc3 ⊢
  replace hnl := Held.mk hnl
  clear hv0 hv1 hv2 hv3 e0 e8 e16 e24 hb
  go_enter Tryz.func56, Tryz.ntmps56
  go_wp2_with (first | (refine' xAb hR rfl rfl rfl ?_; clear hR; intro blk w hR) | (refine' xAa hR rfl rfl inferInstance ?_; clear hR; intro blk w hR) | (refine' aFq hR rfl rfl rfl inferInstance ?_) | (refine' aGq hR rfl rfl rfl inferInstance ?_) | (refine' aHq hR rfl rfl rfl inferInstance ?_) | (refine' aDq hR rfl rfl rfl inferInstance rfl ?_; clear hR; intro w hR) | (refine' aEq hR rfl rfl rfl inferInstance rfl rfl ?_; clear hR; intro w hR) | fail)
  refine wp_loop_rounds 5 ?_
  rw [rounds_succ]
  go_wp2_with (first | (refine' xAb hR rfl rfl rfl ?_; clear hR; intro blk w hR) | (refine' xAa hR rfl rfl inferInstance ?_; clear hR; intro blk w hR) | (refine' aFq hR rfl rfl rfl inferInstance ?_) | (refine' aGq hR rfl rfl rfl inferInstance ?_) | (refine' aHq hR rfl rfl rfl inferInstance ?_) | (refine' aDq hR rfl rfl rfl inferInstance rfl ?_; clear hR; intro w hR) | (refine' aEq hR rfl rfl rfl inferInstance rfl rfl ?_; clear hR; intro w hR) | (go_at_call 89; refine (c0 _ _ hR).mono ?_; clear hR; rintro e w ⟨rfl, hR⟩))
  rw [rounds_succ]
  go_wp2_with (first | (refine' xAb hR rfl rfl rfl ?_; clear hR; intro blk w hR) | (refine' xAa hR rfl rfl inferInstance ?_; clear hR; intro blk w hR) | (refine' aFq hR rfl rfl rfl inferInstance ?_) | (refine' aGq hR rfl rfl rfl inferInstance ?_) | (refine' aHq hR rfl rfl rfl inferInstance ?_) | (refine' aDq hR rfl rfl rfl inferInstance rfl ?_; clear hR; intro w hR) | (refine' aEq hR rfl rfl rfl inferInstance rfl rfl ?_; clear hR; intro w hR) | (go_at_call 89; refine (c1 _ _ hR).mono ?_; clear hR; rintro e w ⟨rfl, hR⟩))
  rw [rounds_succ]
  go_wp2_with (first | (refine' xAb hR rfl rfl rfl ?_; clear hR; intro blk w hR) | (refine' xAa hR rfl rfl inferInstance ?_; clear hR; intro blk w hR) | (refine' aFq hR rfl rfl rfl inferInstance ?_) | (refine' aGq hR rfl rfl rfl inferInstance ?_) | (refine' aHq hR rfl rfl rfl inferInstance ?_) | (refine' aDq hR rfl rfl rfl inferInstance rfl ?_; clear hR; intro w hR) | (refine' aEq hR rfl rfl rfl inferInstance rfl rfl ?_; clear hR; intro w hR) | (go_at_call 89; refine (c2 _ _ hR).mono ?_; clear hR; rintro e w ⟨rfl, hR⟩))
  rw [rounds_succ]
  go_wp2_with (first | (refine' xAb hR rfl rfl rfl ?_; clear hR; intro blk w hR) | (refine' xAa hR rfl rfl inferInstance ?_; clear hR; intro blk w hR) | (refine' aFq hR rfl rfl rfl inferInstance ?_) | (refine' aGq hR rfl rfl rfl inferInstance ?_) | (refine' aHq hR rfl rfl rfl inferInstance ?_) | (refine' aDq hR rfl rfl rfl inferInstance rfl ?_; clear hR; intro w hR) | (refine' aEq hR rfl rfl rfl inferInstance rfl rfl ?_; clear hR; intro w hR) | (go_at_call 89; refine (c3 _ _ hR).mono ?_; clear hR; rintro e w ⟨rfl, hR⟩))
  rw [rounds_succ]
  go_wp2_with (first | (refine' xAb hR rfl rfl rfl ?_; clear hR; intro blk w hR) | (refine' xAa hR rfl rfl inferInstance ?_; clear hR; intro blk w hR) | (refine' aFq hR rfl rfl rfl inferInstance ?_) | (refine' aGq hR rfl rfl rfl inferInstance ?_) | (refine' aHq hR rfl rfl rfl inferInstance ?_) | (refine' aDq hR rfl rfl rfl inferInstance rfl ?_; clear hR; intro w hR) | (refine' aEq hR rfl rfl rfl inferInstance rfl rfl ?_; clear hR; intro w hR) | fail)
  (refine' bodyPost_ret (xAz Tryz.results56 rfl (hR.loadAll (P := Tryz.prog) (ty := 24) ?hm ?hn)) rfl ⟨?_, hR.below⟩; (case hm => first | with_reducible assumption | repeat (first | exact .head _ | with_reducible assumption | apply mC)); (case hn => first | rfl | simp))
  rw [← hnl.out]
  rfl
end
end Go.Proofs.YtgfoeongjhkdmaaGreat
namespace Go.Proofs.YtgfoeongjhkdmaaGreat
open Go.RowKit
attribute [local irreducible] Calls Instr.build
noncomputable def rowV (V : Nat → Value) (n : Nat) : List Value := opq ((List.range n).map V)
theorem rowV_def (V : Nat → Value) (n : Nat) : rowV V n = (List.range n).map V := by unfold rowV; rw [xCe]
@[simp] theorem xCi (V : Nat → Value) (n : Nat) : (rowV V n).length = n := by rw [rowV_def]; simp
theorem rowV_at {V : Nat → Value} {n i : Nat} (h : i < n) : (rowV V n)[i]? = some (V i) := by rw [rowV_def]; simp [h]
noncomputable def b32 (f : Nat → Nat) : List Nat := (List.range 32).map f
theorem xCl (f : Nat → Nat) : (b32 f).length = 32 := by simp [b32]
theorem b32_at (f : Nat → Nat) {j : Nat} (h : j < 32) : (b32 f).getD j 0 = f j := by
  unfold b32; rw [List.getD_eq_getElem?_getD, List.getElem?_map, List.getElem?_range h]; rfl
theorem b32_lt (f : Nat → Nat) (hf : ∀ i, f i < 256) (j : Nat) : (b32 f).getD j 0 < 256 := by
  by_cases h : j < 32
  · rw [b32_at f h]; exact hf j
  · rw [List.getD_eq_getElem?_getD, List.getElem?_eq_none (by rw [xCl]; omega)]; exact (by decide : 0 < 256)
noncomputable def halfN : List Nat → List (List Nat) → Nat → Nat := opq fun s xss n => longN (b32 (hashF (encB s (xss ++ [[n]]))))
theorem halfN_def (s : List Nat) (xss : List (List Nat)) (n : Nat) : halfN s xss n = longN (b32 (hashF (encB s (xss ++ [[n]])))) := by unfold halfN; rw [xCe]
theorem halfN_lt (s : List Nat) (xss : List (List Nat)) (n : Nat) : halfN s xss n < B := by rw [halfN_def]; exact longN_lt _ (b32_lt _ (hashF_lt _))
instance cellStr : CellT Tryz.prog 9 := .mk' (by kernel_rfl) (by kernel_rfl)
instance cellRows : CellT Tryz.prog 65 := .mk' (by kernel_rfl) (by kernel_rfl)
theorem rows_new (ad : Option Addr) (n c : Nat) (w : World) : (Instr.buildSlice 65 1 #[(0, .slice ad n c)]).run Tryz.prog w = .ok (.slice (some ⟨w.heap.size, 0, none⟩) 1 1) (w.alloc (.cells [Value.slice ad n c].toArray 49)) := by go_simp
section
variable {B0 : Nat} {w0 w : World} {L : List (Nat × Obj)}
theorem slice_here {g : Nat} {f : Nat → Nat} {t : TypeId} (hf : ∀ i, f i < 256) (hm : (g, Obj.cells (u8s 32 f).toArray t) ∈ L) (hR : Rep B0 w0 L w) : xBo w.heap.size w [] (.slice (some ⟨g, 0, none⟩) 32 32) (b32 f) :=
  ⟨_, 32, by rw [xCl], by rw [xCl]; exact Nat.le_refl _, by unfold maxLen; omega, b32_lt f hf, fun _ => ⟨g, 0, rfl, fun w' hw j hj => by
    rw [xCl] at hj
    rw [Nat.zero_add, b32_at f hj, hw.below.cell (p := ⟨g, j, none⟩) (hR.lt hm)]
    exact hR.cell hm (u8s_at hj)⟩⟩
set_option maxRecDepth 100000 in
set_option maxHeartbeats 4000000 in
theorem half_any (ba bl A N n : Nat) (s : ByteArray) (V : Nat → Value) (xss : List (List Nat)) (u : Value) (hN : xss.length = N) (hs : s.size ≤ 100000) (hN1 : N < 1000) (hn : n < 256)
    (hb : ∀ j, j < N → xBo B0 w0 L (V j) (xss.getD j []) ∧ (xss.getD j []).length ≤ 1048576)
    (ha : (ba, Obj.cells [Value.string s].toArray 9) ∈ L) (hl : (bl, Obj.cells [Value.slice (some ⟨A, 0, none⟩) N (N + 1)].toArray 65) ∈ L)
    (hR : Rep B0 w0 ((A, .cells (rowV V N ++ [u]).toArray 49) :: L) w) :
    Calls Tryz.prog 54 #[.int .u8 (n : Int), .pointer (some ⟨ba, 0, none⟩), .pointer (some ⟨bl, 0, none⟩)] w fun e w' => e = .returned (num (halfN (strB s) xss n)) ∧ ∃ u', Rep B0 w0 ((A, .cells (rowV V N ++ [u']).toArray 49) :: L) w' := by
  obtain ⟨H, hH⟩ : ∃ H, hashF (encB (strB s) (xss ++ [[n]])) = H := ⟨_, rfl⟩
  have hHl : ∀ i, H i < 256 := fun i => by rw [← hH]; exact hashF_lt _ i
  have cO : ∀ (nb : Nat) (M : List (Nat × Obj)), (∀ w, Rep B0 w0 M w → Rep B0 w0 L w) → (A, Obj.cells (rowV V N ++ [Value.slice (some ⟨nb, 0, none⟩) 1 1]).toArray 49) ∈ M → (nb, Obj.cells [Value.int .u8 (n : Int)].toArray 5) ∈ M → ∀ w, Rep B0 w0 M w →
      Calls Tryz.prog 55 #[.string s, .slice (some ⟨A, 0, none⟩) (N + 1) (N + 1)] w fun e w' => e = .returned (.agg (u8s 32 H).toArray) ∧ Rep B0 w0 M w' := fun nb M hsub hA hnb w hw => by
    have hlen : (xss ++ [[n]]).length = N + 1 := by rw [List.length_append, hN]; rfl
    have hnew : xBo B0 w0 M (.slice (some ⟨nb, 0, none⟩) 1 1) [n] := ⟨_, 1, rfl, Nat.le_refl _, by unfold maxLen; omega, fun j => by
      match j with
      | 0 => exact hn
      | j + 1 => exact (by decide : 0 < 256), fun _ => ⟨nb, 0, rfl, fun w hw j hj => by
        obtain rfl : j = 0 := by simpa using hj
        exact hw.cell hnb rfl⟩⟩
    have hrow : ∀ j, j < N + 1 → xBo B0 w0 M (if j < N then V j else .slice (some ⟨nb, 0, none⟩) 1 1) ((xss ++ [[n]]).getD j []) ∧ ((xss ++ [[n]]).getD j []).length ≤ 1048576 := fun j hj => by
      by_cases h : j < N
      · have e : (xss ++ [[n]]).getD j [] = xss.getD j [] := by rw [List.getD_eq_getElem?_getD, List.getElem?_append_left (by rw [hN]; exact h), ← List.getD_eq_getElem?_getD]
        rw [if_pos h, e]
        exact ⟨(hb j h).1.mono hsub, (hb j h).2⟩
      · obtain rfl : j = N := by omega
        have e : (xss ++ [[n]]).getD j [] = [n] := by
          rw [List.getD_eq_getElem?_getD, List.getElem?_append_right (by rw [hN]; exact Nat.le_refl _), hN, Nat.sub_self]
          rfl
        rw [if_neg h, e]
        exact ⟨hnew, by show 1 ≤ 1048576; decide⟩
    rw [← hH]
    refine hashes_of s _ (xss ++ [[n]]) hs (by rw [hlen]; omega) (fun j hj => (hrow j (by rw [hlen] at hj; exact hj)).2) ⟨some ⟨A, 0, none⟩, N + 1, fun j => if j < N then V j else .slice (some ⟨nb, 0, none⟩) 1 1, by rw [hlen], by rw [hlen]; exact Nat.le_refl _, by unfold maxLen; omega, fun j hj => ?_, fun _ => ⟨A, 0, rfl, fun w hw j hj => ?_⟩⟩ hw
    · obtain ⟨h1, h2⟩ := hrow j (by rw [hlen] at hj; exact hj)
      exact ⟨h1, Nat.le_trans h2 (by unfold reachBytes; decide)⟩
    · rw [hlen] at hj
      rw [Nat.zero_add]
      refine hw.cell hA ?_
      by_cases h : j < N
      · show _ = some (if j < N then V j else _)
        rw [if_pos h, List.getElem?_append_left (by rw [xCi]; exact h), rowV_at h]
      · obtain rfl : j = N := by omega
        show _ = some (if j < j then V j else _)
        rw [if_neg h, List.getElem?_append_right (by rw [xCi]; exact Nat.le_refl _), xCi, Nat.sub_self]
        rfl
  have cg := fun (hb : Nat) (M : List (Nat × Obj)) (t : TypeId) (w : World) (hm : (hb, Obj.cells (u8s 32 H).toArray t) ∈ M) (hR : Rep B0 w0 M w) => get_long _ (b32 H) (xCl H) (slice_here hHl hm hR)
  have hres : longN (b32 H) = halfN (strB s) xss n := by rw [halfN_def, hH]
  generalize halfN (strB s) xss n = res at *
  rw [hres] at cg
  have hrl := xCi V N
  generalize rowV V N = row at *
  replace hb := Held.mk hb
  replace hH := Held.mk hH
  replace hres := Held.mk hres
  replace hHl := Held.mk hHl
  replace hrl := Held.mk hrl
  replace hN := Held.mk hN
  clear hs hN1 hn
  have hone := u8s_one 32 H
  go_enter Tryz.func54, Tryz.ntmps54
  go_wp2_with (first | (refine' xAb hR rfl rfl rfl ?_; clear hR; intro blk w hR) | (refine' xAa hR rfl rfl inferInstance ?_; clear hR; intro blk w hR) | (refine' aFq hR rfl rfl rfl inferInstance ?_) | (refine' aGq hR rfl rfl rfl inferInstance ?_) | (refine' aHq hR rfl rfl rfl inferInstance ?_) | (refine' aDq hR rfl rfl rfl inferInstance rfl ?_; clear hR; intro w hR) | (refine' aEq hR rfl rfl rfl inferInstance rfl rfl ?_; clear hR; intro w hR) | fail)
  refine cut_code (fun l tm w' => ∃ hb u', agree (false :: false :: false :: false :: false :: false :: false :: false :: true :: true :: true :: true :: true :: true :: true :: false :: false :: false :: false :: false :: false :: []) (l.set 5 (.pointer (some ⟨hb, 0, none⟩))) tm ∧ Rep B0 w0 ((hb, .cells (u8s 32 H).toArray 28) :: (blk, .cells [Value.int .u64 0, Value.int .u64 0, Value.int .u64 0, Value.int .u64 0].toArray 24) :: (A, .cells (row ++ [u']).toArray 49) :: L) w') ?h1 ?h2
  case h1 =>
    intro Kq hKq
    refine wp_region_news hR [] 9 xCt rfl ?_
    clear hR
    refine newsHeads [(ba, Obj.cells [Value.string s].toArray 9), (bl, Obj.cells [Value.slice (some ⟨A, 0, none⟩) N (N + 1)].toArray 65)] [1, 1, 1, 2, 2, 2, 2, 2, 2] 6 rfl (by repeat (first | exact xBu | refine xBn (by repeat (first | exact .head _ | with_reducible assumption | apply mC)) ?_)) (by repeat (first | exact xBu | refine xBn (by repeat (first | exact .head _ | with_reducible assumption | apply mC)) ?_)) rfl (by kernel_rfl) (fun K hK => ?_)
    repeat ((first | (refine xBj ?_) | (refine' xAs (by decide) rfl (.inl rfl) rfl ?ha ?_) | (refine' xAs (by decide) rfl (.inr rfl) rfl ?ha ?_) | (refine' xAr rfl rfl rfl inferInstance ?hm ?hn ?ha ?_; (case hm => first | with_reducible assumption | repeat (first | exact .head _ | with_reducible assumption | apply mC)); (case hn => first | rfl | simp)) | (refine' xAm rfl rfl rfl inferInstance ?hm ?hv ?hn ?ha ?_; (case hm => first | with_reducible assumption | repeat (first | exact .head _ | with_reducible assumption | apply mC)); (case hv => first | with_reducible assumption | (simp only [kC, kD, kE, kF]; try rfl)); (case hn => first | rfl | simp)) | (refine' xAi rfl rfl rfl inferInstance ?hm ?hv ?ha ?_; (case hm => first | with_reducible assumption | repeat (first | exact .head _ | with_reducible assumption | apply mC)); (case hv => first | rfl | with_reducible assumption)) | (refine' xAn rfl rfl rfl inferInstance ?hm ?hv ?hn ?ha ?_; (case hm => first | with_reducible assumption | repeat (first | exact .head _ | with_reducible assumption | apply mC)); (case hv => first | with_reducible assumption | (simp only [kC, kD, kE, kF]; try rfl)); (case hn => first | rfl | simp)) | (refine' xAj rfl rfl rfl inferInstance ?hm ?hv ?ha ?_; (case hm => first | with_reducible assumption | repeat (first | exact .head _ | with_reducible assumption | apply mC)); (case hv => first | rfl | with_reducible assumption)) | ((first | refine' xAd (by decide) rfl rfl rfl rfl (fun w => ?hq) ?ha ?_ | refine' xBf (by decide) rfl rfl rfl rfl (fun w => ?hq) ?ha ?_ | refine' xAp (by decide) rfl rfl rfl (fun w => ?hq) ?ha ?_ | refine' xAe (by decide) rfl rfl rfl (fun w => ?hq) ?ha ?_ | refine' xAo (by decide) rfl rfl rfl (fun w => ?hq) ?ha ?_ | refine' xBd (by decide) rfl rfl rfl rfl (fun w => ?hq) ?ha ?_ | refine' xBc (by decide) rfl rfl rfl rfl rfl rfl (fun w => ?hq) ?ha ?_ | refine' xBb (by decide) rfl rfl (fun w => ?hq) ?ha ?_ | refine' xAq (by decide) rfl rfl rfl (fun w => ?hq) ?ha ?_ | refine' xBe (by decide) rfl rfl rfl (fun w => ?hq) ?ha ?_); (case hq => go_simp; try rfl)) | (refine' xAh (by decide) rfl rfl rfl ?ha ?_) | (refine' xBl (by decide) rfl rfl rfl rfl ?ha ?_) | (refine' xBk (by decide) rfl ?ha ?_) | fail); try (case ha => simp only [kP, kQ, kA, kB]; try rfl))
    refine xBs (hK _ _ ?_)
    clear hK K
    repeat' (first
      | exact steps_nil
      | (refine step_is 3 ?_; refine steps_new rfl rfl (isNew_one rfl rfl rfl (xCw _)) (fun nb => ?_) ?_; try simp only [Act.put, kA, kB, List.setIfInBounds_toArray])
      | (refine step_is 4 ?_; refine steps_new rfl rfl (isNew_one rfl rfl rfl (rows_new _ _ _)) (fun sb => ?_) ?_; try simp only [Act.put, kA, kB, List.setIfInBounds_toArray])
      | (refine step_is 7 ?_; refine steps_new rfl rfl (isNew_allocR rfl rfl) (fun hb => ?_) ?_; try simp only [Act.put, kA, kB, List.setIfInBounds_toArray])
      | (refine step_is 5 ?_; refine steps_y rfl rfl (yields_append1 rfl rfl Tryz.underlying65 rfl rfl hrl.out rfl (by repeat (first | exact .head _ | with_reducible assumption | apply mC)) (by repeat (first | exact xAx.head | apply xAx.tail))) (by repeat (first | exact xBu | refine xBn (by repeat (first | exact .head _ | with_reducible assumption | apply mC)) ?_)) ?_ ?_; try simp only [Act.put, kA, kB, List.setIfInBounds_toArray])
      | (refine step_is 6 ?_; refine steps_y rfl rfl (yields_call rfl rfl rfl (xBi Tryz.func55 (by kernel_rfl) (by kernel_rfl) _) (cO _ _ (fun w hw => hw.weaken (by repeat (first | exact List.Sublist.refl _ | apply List.Sublist.cons))) (by repeat (first | exact .head _ | with_reducible assumption | apply mC)) (by repeat (first | exact .head _ | with_reducible assumption | apply mC)))) (by repeat (first | exact xBu | refine xBn (by repeat (first | exact .head _ | with_reducible assumption | apply mC)) ?_)) ?_ ?_; try simp only [Act.put, kA, kB, List.setIfInBounds_toArray])
      | (refine step_is 8 ?_; refine steps_s rfl rfl (xDf rfl rfl rfl inferInstance rfl hone (xCr _ _) (xCr _ _) (by repeat (first | exact xAx.head | apply xAx.tail))) (by repeat (first | exact xBu | refine xBn (by repeat (first | exact .head _ | with_reducible assumption | apply mC)) ?_)) ?_ ?_; try simp only [Act.put, kA, kB, List.setIfInBounds_toArray])
      | refine news_at [3, 7] (by decide +kernel) rfl ?_
      | refine news_at [4, 7] (by decide +kernel) rfl ?_
      | refine news_at [5, 7] (by decide +kernel) rfl ?_
      | refine news_at [6, 7] (by decide +kernel) rfl ?_
      | refine news_at [8] (by decide +kernel) rfl ?_
      | refine news_at [7] (by decide +kernel) rfl ?_
      | refine news_at [3] (by decide +kernel) rfl ?_
      | refine news_at [4] (by decide +kernel) rfl ?_
      | refine news_at [5] (by decide +kernel) rfl ?_
      | refine news_at [6] (by decide +kernel) rfl ?_)
    all_goals refine news_end (by decide +kernel) (fun w hR => ?_)
    all_goals exact hKq.out _ _ ⟨_, _, xAu rfl rfl rfl, hR.weaken (by repeat (first | exact List.Sublist.refl _ | apply List.Sublist.cons_cons | apply List.Sublist.cons))⟩
  case h2 =>
    clear hR
    rintro tm w ⟨hb, u', ht, hR⟩
    repeat (first | (obtain ⟨x, tm', e, ht'⟩ := xAf ht; clear ht; subst e; have ht := ht'; clear ht') | (obtain ⟨tm', e, ht'⟩ := xAc ht; clear ht; subst e; have ht := ht'; clear ht'))
    obtain rfl := xAk ht
    clear ht
    go_wp2_with (first | (refine' xAb hR rfl rfl rfl ?_; clear hR; intro blk w hR) | (refine' xAa hR rfl rfl inferInstance ?_; clear hR; intro blk w hR) | (refine' aFq hR rfl rfl rfl inferInstance ?_) | (refine' aGq hR rfl rfl rfl inferInstance ?_) | (refine' aHq hR rfl rfl rfl inferInstance ?_) | (refine' aDq hR rfl rfl rfl inferInstance rfl ?_; clear hR; intro w hR) | (refine' aEq hR rfl rfl rfl inferInstance rfl rfl ?_; clear hR; intro w hR) | (go_at_call 56; refine (cg _ _ _ _ (.head _) hR).mono ?_; clear cg; rintro e w ⟨rfl, hbw⟩; replace hR := hR.call hbw; clear hbw))
    (refine' bodyPost_ret (xBq Tryz.results54 rfl (hR.loadAll (P := Tryz.prog) (ty := 24) ?hm ?hn)) rfl ⟨rfl, u', hR.drop1.drop1.drop1⟩; (case hm => exact .tail _ (.tail _ (.head _))); (case hn => rfl))
end
end Go.Proofs.YtgfoeongjhkdmaaGreat
namespace Go.Proofs.YtgfoeongjhkdmaaGreat
open Go.RowKit
attribute [local irreducible] Calls
noncomputable def hnumN (s : List Nat) (xss : List (List Nat)) (m : Nat) : Nat := widN (halfN s xss 1) (halfN s xss 0) m
theorem info_row : (Tryz.prog.info? 49).map (fun i => (i.zero, i.size, i.bytes)) = some (some (.slice none 0 0), 1, 24) := by kernel_rfl
instance zeroRows : ZeroT Tryz.prog 65 [.slice none 0 0] := ⟨.slice none 0 0, by kernel_rfl, rfl⟩
theorem make_rows (n c : Nat) (hn : n ≤ c) (hc : c ≤ 16000) : ∃ l : List Value, l.length = c ∧ ∀ w : World, (Instr.makeSlice 65 (.int .i64 (n : Int)) (.int .i64 (c : Int))).run Tryz.prog w = .ok (.slice (some ⟨w.heap.size, 0, none⟩) n c) (w.alloc (.cells l.toArray 49)) := by
  obtain ⟨i0, hi, hz0, hz1, hz2⟩ := info_parts info_row
  refine ⟨(madeCells (Value.slice none 0 0).cells c).toList, by simp [size_madeCells], fun w => ?_⟩
  rw [run_makeSlice (P := Tryz.prog) w 65 49 i0 (.slice none 0 0) Tryz.underlying65 hi hz0 .i64 .i64 (n : Int) (c : Int) (by omega) (by omega) (by rw [hz1]; simp; omega) (by rw [hz2]; omega) (by omega)]
  rw [hz1]
  simp
section
variable {B0 : Nat} {w0 w : World} {L : List (Nat × Obj)}
section
variable {ops : Array Oper} {rest : List Oper} {o : Oper} {a : Act} {Q : Exit → Act → World → Prop}
theorem wpList_copyRows {g n cap : Nat} {cur : List Value} {av : Option Addr} {cv : Nat} {V : Nat → Value} (hR : Rep B0 w0 ((g, .cells cur.toArray 49) :: L) w) (hgd : o.guard = none) {d s : Operand} (ho : o.op = .call { callee := .builtin .copy, args := #[d, s], argTypes := #[65, 65] })
    (hd : a.eval d = .slice (some ⟨g, 0, none⟩) n cap) (hs : a.eval s = .slice av n cv) (hfit : cur.length = n + 1) (h1 : ∀ j, j < n → (V j).oneCell' = true)
    (hv : n ≠ 0 → ∃ bb off, av = some ⟨bb, off, none⟩ ∧ ∀ w, Rep B0 w0 L w → ∀ j, j < n → w.cell? ⟨bb, off + j, none⟩ = some (V j))
    (h : ∀ (u : Value) w', Rep B0 w0 ((g, .cells (rowV V n ++ [u]).toArray 49) :: L) w' → wpList Tryz.prog ops Q rest (a.put o.dst (.int .i64 (n : Int))) w') : wpList Tryz.prog ops Q (o :: rest) a w := by
  obtain ⟨u, hu⟩ : ∃ u, cur.drop n = [u] := by
    have : (cur.drop n).length = 1 := by rw [List.length_drop]; omega
    match h : cur.drop n, this with
    | [u], _ => exact ⟨u, rfl⟩
  by_cases hn : n = 0
  · subst hn
    refine wpList_plain hgd fun K hK => ?_
    have hrun := run_copy_none (P := Tryz.prog) w 65 65 o.type 49 (some ⟨g, 0, none⟩) av 0 cap 0 cv Tryz.underlying65 (by kernel_rfl) rfl
    unfold Oper.wp
    simp [execOp, ho, resolve, invoke, builtin, hd, hs, hrun, Result.andThen]
    refine hK _ _ (h u w ?_)
    rw [rowV_def]
    rw [List.drop_zero] at hu
    subst hu
    exact hR
  · obtain ⟨bb, off, rfl, c5⟩ := hv hn
    refine wpList_copyRep (l' := rowV V n ++ [u]) hR hgd ho Tryz.underlying65 (by kernel_rfl) hd hs (rowV V n) (xCi _ _) xAx.head (Nat.min_self n).symm (fun j v hj => ?_) (by omega) (fun v hv => ?_) ?_ (fun w' hw' => h u w' hw')
    · have hjn : j < n := by
        have := (List.getElem?_eq_some_iff.1 hj).1
        simpa using this
      rw [rowV_at hjn] at hj
      rw [← Option.some.inj hj, addr_none]
      exact c5 w hR.drop1 j hjn
    · obtain ⟨j, hj, rfl⟩ := List.getElem_of_mem hv
      have hjn : j < n := by simpa using hj
      have e := rowV_at (V := V) hjn
      rw [List.getElem?_eq_getElem hj] at e
      rw [Option.some.inj e]
      exact h1 j hjn
    · rw [List.take_zero, List.nil_append, Nat.zero_add, hu]
end
def Halved (B0 : Nat) (w0 : World) (L : List (Nat × Obj)) (A : Nat) (row : List Value) (w : World) : Prop := ∃ u, Rep B0 w0 ((A, .cells (row ++ [u]).toArray 49) :: L) w
theorem hd_callF {P : Program} {ops : Array Oper} {I : (World → Prop) → Prop} {C : World → Prop} {K : List Oper → Act → Prop} {ts : List Nat} {r acc : List Oper} {o : Oper} {a : Act} (hw : Region.wanted o (yielded ops a.tmps) = true) {f : FuncId} {xs : List Operand} {us : Array TypeId} (hop : o.op = .call { callee := .value (.func f), args := xs.toArray, argTypes := us }) {vs : List Value} {v : Value} (hx' : evL a xs = some vs)
    (hent : ∀ w, (callFunc f vs.toArray).run P w = .ok (.enter f vs.toArray) w) (hq : ∀ w, C w → Calls P f vs.toArray w fun e w' => e = .returned v ∧ C w')
    {a' : Act} (ha : a.put o.dst v = a') (h : xCm P ops I C K ts r acc a') : xCm P ops I C K (0 :: ts) (o :: r) acc a :=
  hd_step hw (fun w hR => by
    have e : (execOp a.eval o).run P w = .ok (.enter f vs.toArray) w := by
      have hx := xDb hx'
      unfold execOp
      simp only [hop, resolve, Deferred.ofValue, Act.eval, Sem.run_bind, Sem.run_pure, Result.andThen_ok, hx]
      have := hent w
      simpa [invoke] using this
    rw [e]
    exact (hq w hR).mono fun e' w' ⟨he, hb⟩ => ⟨he, hb⟩) ha h
theorem one_slice {B0 : Nat} {w0 : World} {L : List (Nat × Obj)} {v : Value} {xs : List Nat} (h : xBo B0 w0 L v xs) : v.oneCell' = true := by
  obtain ⟨a, c, rfl, _⟩ := h
  rfl
set_option maxRecDepth 100000 in
set_option maxHeartbeats 4000000 in
theorem hash_number (m : Nat) (s : ByteArray) (v : Value) (xss : List (List Nat)) (hm : m < B) (hs : s.size ≤ 100000) (hN1 : xss.length < 1000) (hb : ∀ j, j < xss.length → (xss.getD j []).length ≤ 1048576) (hv : RowsOf B0 w0 L v xss) (hR : Rep B0 w0 L w) :
    Calls Tryz.prog 28 #[num m, .string s, v] w fun e w' => e = .returned (.tuple #[num (hnumN (strB s) xss m), .int .i64 (if m = 0 then 1 else 0)]) ∧ Rep B0 w0 L w' := by
  obtain ⟨a, cp, V, rfl, h1, h2, h4, h5⟩ := hv
  obtain ⟨N, hN⟩ : ∃ N, xss.length = N := ⟨_, rfl⟩
  have hne : N ≠ 0 → xss ≠ [] := fun h e => h (by rw [← hN, e]; rfl)
  rw [hN] at hN1 h1 hb h4 h5 ⊢
  obtain ⟨M, hM⟩ : ∃ M, N + 1 = M := ⟨_, rfl⟩
  have f1 : IntKind.i64.wrap ((N : Int) + 1) = (M : Int) := by rw [IntKind.wrap_i64]; omega
  obtain ⟨l0, hl0, hmk⟩ := make_rows N M (by omega) (by omega)
  have hfit : l0.length = N + 1 := by omega
  have hone : ∀ j, j < N → (V j).oneCell' = true := fun j hj => one_slice (h4 j hj).1
  have ch := fun (ba bl A n x : Nat) (M : List (Nat × Obj)) (hn : n < 256) (hx : halfN (strB s) xss n = x) (hsub : ∀ w, Rep B0 w0 M w → Rep B0 w0 L w) (ha : (ba, Obj.cells [Value.string s].toArray 9) ∈ M) (hl : (bl, Obj.cells [Value.slice (some ⟨A, 0, none⟩) N (N + 1)].toArray 65) ∈ M) (w : World) (hC : Halved B0 w0 M A (rowV V N) w) =>
    hC.elim fun u hR => (half_any (w := w) ba bl A N n s V xss u hN hs hN1 hn (fun j hj => ⟨(h4 j hj).1.mono hsub, hb j hj⟩) ha hl hR).mono fun e w' ⟨h1, h2⟩ => (⟨by rw [h1, hx], h2⟩ : e = Ending.returned (num x) ∧ Halved B0 w0 M A (rowV V N) w')
  have hx1 := halfN_lt (strB s) xss 1
  have hx0 := halfN_lt (strB s) xss 0
  unfold hnumN
  have ch1 := fun (ba bl A : Nat) (M : List (Nat × Obj)) => ch ba bl A 1 _ M (by decide) rfl
  have ch0 := fun (ba bl A : Nat) (M : List (Nat × Obj)) => ch ba bl A 0 _ M (by decide) rfl
  clear ch
  generalize halfN (strB s) xss 1 = x1 at *
  generalize halfN (strB s) xss 0 = x0 at *
  have cw := fun (w : World) => wide_any x1 x0 m hx1 hx0 hm w
  generalize widN x1 x0 m = res at *
  generalize hre : (if m = 0 then 1 else 0 : Int) = er at *
  clear hre hx1 hx0 hm hs hN1 hb h4
  have hmN : M = N + 1 := hM.symm
  replace hN := Held.mk hN
  replace hM := Held.mk hM
  replace hne := Held.mk hne
  have hv5 : N ≠ 0 → ∃ bb off, a = some ⟨bb, off, none⟩ ∧ ∀ w, Rep B0 w0 L w → ∀ j, j < N → w.cell? ⟨bb, off + j, none⟩ = some (V j) := fun h => h5 (hne.out h)
  clear h5
  replace hv5 := Held.mk hv5
  replace hone := Held.mk hone
  replace ch1 := Held.mk ch1
  replace ch0 := Held.mk ch0
  skip
  replace hmN := Held.mk hmN
  clear hl0
  go_enter Tryz.func28, Tryz.ntmps28
  go_wp2_with (first | (refine' xAb hR rfl rfl rfl ?_; clear hR; intro blk w hR) | (refine' xAa hR rfl rfl inferInstance ?_; clear hR; intro blk w hR) | (refine' aFq hR rfl rfl rfl inferInstance ?_) | (refine' aGq hR rfl rfl rfl inferInstance ?_) | (refine' aHq hR rfl rfl rfl inferInstance ?_) | (refine' aDq hR rfl rfl rfl inferInstance rfl ?_; clear hR; intro w hR) | (refine' aEq hR rfl rfl rfl inferInstance rfl rfl ?_; clear hR; intro w hR) | (refine' wpList_makeRep hR rfl rfl rfl rfl hmk ?_; clear hR; intro blk w hR) | (refine' wpList_copyRows hR.swap' rfl rfl rfl rfl hfit hone.out (fun h0 => ?zz) ?_; (case zz => exact (hv5.out h0).elim fun bb h => h.elim fun off h => ⟨bb, off, h.1, fun w hw => h.2 w hw.drop1.drop1.drop1.drop1⟩); clear hR; intro u w hR))
  obtain ⟨bl, hbl⟩ : ∃ x, x = blk := ⟨_, rfl⟩
  subst hbl
  rename_i b3 w1 b4 w2 c6 w3 w4 w5 w6 K0 kz
  obtain ⟨A, hA⟩ : ∃ x, x = blk := ⟨_, rfl⟩
  subst hA
  obtain rfl := hmN.out
  clear f1 hmk hN hM hne hv5 hone hmN
  replace hR : Rep B0 w0 ((A, .cells (rowV V N ++ [u]).toArray 49) :: (bl, .cells [Value.slice (some ⟨A, 0, none⟩) N (N + 1)].toArray 65) :: (c6, .cells [Value.int .u64 0, Value.int .u64 0, Value.int .u64 0, Value.int .u64 0].toArray 24) :: (b4, .cells [Value.string s].toArray 9) :: (b3, .cells (nl m).toArray 24) :: L) w := hR
  refine wp_region_ordC (Halved B0 w0 ((bl, .cells [Value.slice (some ⟨A, 0, none⟩) N (N + 1)].toArray 65) :: (c6, .cells [Value.int .u64 0, Value.int .u64 0, Value.int .u64 0, Value.int .u64 0].toArray 24) :: (b4, .cells [Value.string s].toArray 9) :: (b3, .cells (nl m).toArray 24) :: L) A (rowV V N)) ⟨u, hR.drew⟩ [0, 0, 0, 0, 0, 0, 0, 0, 2, 2] xCt (by kernel_rfl) rfl rfl (fun K hK => ?_)
  clear hR
  have hsub : ∀ w, Rep B0 w0 ((bl, .cells [Value.slice (some ⟨A, 0, none⟩) N (N + 1)].toArray 65) :: (c6, .cells [Value.int .u64 0, Value.int .u64 0, Value.int .u64 0, Value.int .u64 0].toArray 24) :: (b4, .cells [Value.string s].toArray 9) :: (b3, .cells (nl m).toArray 24) :: L) w → Rep B0 w0 L w := fun w hw => hw.drop1.drop1.drop1.drop1
  have k1 := ch1.out b4 bl A _ hsub (.tail _ (.tail _ (.head _))) (.head _)
  have k0 := ch0.out b4 bl A _ hsub (.tail _ (.tail _ (.head _))) (.head _)
  repeat ((first | (refine xBj ?_) | (refine' xAs (by decide) rfl (.inl rfl) rfl ?ha ?_) | (refine' xAs (by decide) rfl (.inr rfl) rfl ?ha ?_) | (refine' xAr rfl rfl rfl inferInstance ?hm ?hn ?ha ?_; (case hm => first | with_reducible assumption | repeat (first | exact .head _ | with_reducible assumption | apply mC)); (case hn => first | rfl | simp)) | (refine' xAm rfl rfl rfl inferInstance ?hm ?hv ?hn ?ha ?_; (case hm => first | with_reducible assumption | repeat (first | exact .head _ | with_reducible assumption | apply mC)); (case hv => first | with_reducible assumption | (simp only [kC, kD, kE, kF]; try rfl)); (case hn => first | rfl | simp)) | (refine' xAi rfl rfl rfl inferInstance ?hm ?hv ?ha ?_; (case hm => first | with_reducible assumption | repeat (first | exact .head _ | with_reducible assumption | apply mC)); (case hv => first | rfl | with_reducible assumption)) | (refine' xAn rfl rfl rfl inferInstance ?hm ?hv ?hn ?ha ?_; (case hm => first | with_reducible assumption | repeat (first | exact .head _ | with_reducible assumption | apply mC)); (case hv => first | with_reducible assumption | (simp only [kC, kD, kE, kF]; try rfl)); (case hn => first | rfl | simp)) | (refine' xAj rfl rfl rfl inferInstance ?hm ?hv ?ha ?_; (case hm => first | with_reducible assumption | repeat (first | exact .head _ | with_reducible assumption | apply mC)); (case hv => first | rfl | with_reducible assumption)) | ((first | refine' xAd (by decide) rfl rfl rfl rfl (fun w => ?hq) ?ha ?_ | refine' xBf (by decide) rfl rfl rfl rfl (fun w => ?hq) ?ha ?_ | refine' xAp (by decide) rfl rfl rfl (fun w => ?hq) ?ha ?_ | refine' xAe (by decide) rfl rfl rfl (fun w => ?hq) ?ha ?_ | refine' xAo (by decide) rfl rfl rfl (fun w => ?hq) ?ha ?_ | refine' xBd (by decide) rfl rfl rfl rfl (fun w => ?hq) ?ha ?_ | refine' xBc (by decide) rfl rfl rfl rfl rfl rfl (fun w => ?hq) ?ha ?_ | refine' xBb (by decide) rfl rfl (fun w => ?hq) ?ha ?_ | refine' xAq (by decide) rfl rfl rfl (fun w => ?hq) ?ha ?_ | refine' xBe (by decide) rfl rfl rfl (fun w => ?hq) ?ha ?_); (case hq => go_simp; try rfl)) | (refine' xAh (by decide) rfl rfl rfl ?ha ?_) | (refine' xBl (by decide) rfl rfl rfl rfl ?ha ?_) | (refine' xBk (by decide) rfl ?ha ?_) | (refine' hd_callC rfl rfl rfl rfl (fun w => xBi Tryz.func54 (by kernel_rfl) (by kernel_rfl) _ w) k1 ?ha ?_) | (refine' hd_callC rfl rfl rfl rfl (fun w => xBi Tryz.func54 (by kernel_rfl) (by kernel_rfl) _ w) k0 ?ha ?_) | (refine' hd_loadC rfl rfl rfl (fun w hC => hC.elim fun u hR => hR.loadAll (P := Tryz.prog) (ty := 24) (.tail _ (.tail _ (.tail _ (.tail _ (.head _))))) rfl) ?ha ?_) | (refine' hd_callF rfl rfl rfl (fun w => xBi Tryz.func57 (by kernel_rfl) (by kernel_rfl) _ w) (fun w hC => hC.elim fun u hR => (cw w).mono fun e w' ⟨h1, h2⟩ => ⟨h1, u, hR.call h2⟩) ?ha ?_)); try (case ha => simp only [kP, kQ, kA, kB]; try rfl))
  refine xBs (hK _ _ ?_)
  clear hK K
  refine xBx (fun Q hQ => ?_)
  refine' tl_storeC (Halved B0 w0 ((bl, .cells [Value.slice (some ⟨A, 0, none⟩) N (N + 1)].toArray 65) :: (c6, .cells (nl res).toArray 24) :: (b4, .cells [Value.string s].toArray 9) :: (b3, .cells (nl m).toArray 24) :: L) A (rowV V N)) rfl rfl rfl rfl (fun w hC => ?hq) ?ha ?_
  case hq =>
    obtain ⟨u, hR⟩ := hC
    obtain ⟨w', e, hR'⟩ := hR.storeRow (P := Tryz.prog) (ty := 24) (off := 0) (vs := nl res) (l' := nl res) rfl rfl (.tail (.tail .head)) (Nat.le_refl 4) rfl
    exact ⟨w', e, u, hR'⟩
  case ha => simp only [Act.put, kA, kB, List.setIfInBounds_toArray]; try rfl
  refine' tl_moveC rfl (.inr rfl) rfl ?ha ?_
  case ha => simp only [Act.put, kA, kB, List.setIfInBounds_toArray]; try rfl
  refine xBw (fun w hC => hQ _ _ ?_)
  clear hQ Q
  obtain ⟨u, hR⟩ := hC
  simp only [Exit.then]
  refine kz _ _ (wp_ret ?_)
  (refine' bodyPost_ret (xAz Tryz.results28 rfl (hR.loadAll (P := Tryz.prog) (ty := 24) ?hm ?hn)) rfl ⟨rfl, hR.drop1.drop1.drop1.drop1.drop1⟩; (case hm => exact .tail _ (.tail _ (.head _))); (case hn => rfl))
end
end Go.Proofs.YtgfoeongjhkdmaaGreat
