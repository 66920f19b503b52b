import Derived.OrdersIn
import Derived.RangeFuncOwn
import Derived.RangeFuncCalls
import Derived.Test.YtaaahfjpnggkbaaGreatDoorHR
import Derived.Test.YtaaahfjpnggkbaaGreatDoorHZ
import Derived.Test.YtaaahfjpnggkbaaGreatDoorHF
import Derived.Test.YtaaahfjpnggkbaaGreatDoorHK2
set_option linter.unusedSimpArgs false
set_option linter.unusedVariables false
set_option maxRecDepth 100000
set_option maxHeartbeats 20000000
namespace Go.Proofs.YtaaahfjpnggkbaaGreatDoor
open Go.RowKit
section
section
variable {P : Program} {ops : Array Oper} {Q : Exit → Act → World → Prop} {md : Region.Mode} {k n : Nat}
theorem wpOpIn_round (hout : ¬ LetsOut Q) {i : Nat} (hnd : ∀ (o : Oper) (c : Call), ops[i]? = some o → o.op ≠ .defer c) {K : Act → World → Prop} {a : Act} {w : World} (h : wpOp P ops Q i K a w) : wpOpIn (Fence.wide.inRound k) n P ops Q i K a w := by
 unfold Go.wpOpIn
 unfold Go.wpOp at h
 cases ho : ops[i]? with
 | none => simpa [ho] using h
 | some o =>
  simp only [ho] at h
  by_cases hw : Region.wanted o (yielded ops a.tmps) = true
  ·rw [if_pos hw] at h
   simp only [hw, if_true]
   rcases h with h | ⟨_, h⟩
   ·unfold Oper.wpIn
    refine ⟨fun _ _ => trivial, ?_⟩
    rw [Oper.semAt_eq _ _ _ (fun c => hnd o c ho)]
    unfold Oper.wp at h
    generalize (execOp a.eval o).run P w = r at *
    cases r with
    | ok x w' =>
     cases x <;> simp only [Oper.upon] at h <;> simp only [Oper.uponIn]
     case value => exact h
     case skip => exact h
     case defer => exact h
     case enter => exact ⟨fun h' => (nomatch h'), CallsIn.inRound k (callsIn_wide.2 h)⟩
     case row => exact ⟨fun h' => (nomatch h'), fun c cs _ => let ⟨v, w', r, s⟩ := h c cs; ⟨v, w', r, stepsIn_wide.2 s⟩⟩
    | halt x w' => cases x <;> simp only [Oper.upon] at h <;> simp only [Oper.uponIn] <;> exact h
   ·exact absurd h hout
  ·rw [if_neg hw] at h
   simp only [hw]
   exact ⟨fun _ _ => trivial, h⟩
theorem xHl (hout : ¬ LetsOut Q) (hnd : ∀ (i : Nat) (o : Oper) (c : Call), ops[i]? = some o → o.op ≠ .defer c) : ∀ (f : Nat) (listed : Array Bool) (a : Act) (w : World), wpAny P md ops Q f listed a w → wpAnyIn (Fence.wide.inRound k) n P md ops Q f listed a w
 | 0, _, _, _, h => h
 | f + 1, listed, a, w, h => ⟨h.1, fun i hi => wpOpIn_round hout (hnd i) (wpOp_mono (fun a w h => xHl hout hnd f _ a w h) (h.2 i hi))⟩
def noDefer (ops : List Oper) : Bool := ops.all fun o => match o.op with | .defer _ => false | _ => true
theorem noDefer_spec {l : List Oper} (h : noDefer l = true) : ∀ (i : Nat) (o : Oper) (c : Call), l.toArray[i]? = some o → o.op ≠ .defer c := fun i o c ho e => by
 have hm : o ∈ l := List.mem_of_getElem? (by simpa using ho)
 have := List.all_eq_true.1 h o hm
 rw [e] at this
 cases this
theorem xIm {id : Nat} {w : World} {l : List Oper} {a : Act} (C : World → Prop) (hC : C w.drew) (ts : List Nat) (hout : ¬ LetsOut Q) (hnd : noDefer l = true) (hm : P.follows .mixedOrders = true) (hB : ordOK l.toArray (xBi 0 ts) (xCt 0 ts) = true) (hlen : ts.length = l.length) (hlen2 : (xBi 0 ts).length + (xCt 0 ts).length = l.length)
  (h : ∀ K : List Oper → Act → Prop, (∀ tl a', xFe P l.toArray (fun _ => True) Q tl C a' → K tl a') → xBn P l.toArray (fun _ => True) C K ts l [] a) : (Code.region id l.toArray true).wpIn (Fence.wide.inRound k) n P Q a w := by
 have h := h _ (fun _ _ h => h)
 refine wpIn_region_any hm (xHl hout (noDefer_spec hnd) _ _ _ _ ?_)
 have hlt : ∀ t ∈ xCt 0 ts, t < l.toArray.size := fun t ht => by
  simp only [ordOK, Bool.and_eq_true] at hB
  have := List.all_eq_true.1 hB.2 t ht
  simp only [Bool.and_eq_true, decide_eq_true_eq] at this
  exact this.1
 have := wpAny_ord (w := w.drew) (Q := Q) (xBi 0 ts) (xCt 0 ts) hB hC trivial (xCu (K := tailW P l.toArray (fun _ => True) Q (xCt 0 ts) C) ts l [] 0 a hlen (fun j => by simp) (fun a' ha' => xGc _ _ a' hlt (by simpa using ha')) h)
 rw [hlen2] at this
 simpa using this
end
theorem hd_callG {P : Program} {ops : Array Oper} {I : (World → Prop) → Prop} {C : World → Prop} {K : List Oper → Act → Prop} {ts : List Nat} {r acc : List Oper} {o : Oper} {a : Act} (hw : Region.wanted o (yielded ops a.tmps) = true) {f : FuncId} {xs : List Operand} {us : Array TypeId} (hop : o.op = .call { callee := .value (.func f), args := xs.toArray, argTypes := us }) {vs : List Value} {v : Value} (hx' : evL a xs = some vs)
  (hent : ∀ w, (callFunc f vs.toArray).run P w = .ok (.enter f vs.toArray) w) (hq : ∀ w, C w → Calls P f vs.toArray w fun e w' => e = .returned v ∧ C w')
  {a' : Act} (ha : a.put o.dst v = a') (h : xBn P ops I C K ts r acc a') : xBn P ops I C K (0 :: ts) (o :: r) acc a :=
 xHk hw (fun w hR => by
  have e : (execOp a.eval o).run P w = .ok (.enter f vs.toArray) w := by
   have hx := xCy hx'
   unfold execOp
   simp only [hop, resolve, Deferred.ofValue, Act.eval, Sem.run_bind, Sem.run_pure, Result.andThen_ok, hx]
   have := hent w
   simpa [invoke] using this
  rw [e]
  exact (hq w hR).mono fun e' w' ⟨he, hb⟩ => ⟨he, hb⟩) ha h
section
variable {P : Program} {B0 : Nat} {w0 W0 w : World} {L L' : List (Nat × Obj)}
def rest (B0 : Nat) (ks : List Nat) (w : World) : Nat → List (Nat × Obj)
 | 0 => []
 | m + 1 => match w.heap[m]? with | some o => if B0 ≤ m ∧ m ∉ ks then (m, o) :: rest B0 ks w m else rest B0 ks w m | none => rest B0 ks w m
theorem rest_mem {ks : List Nat} : ∀ (m : Nat) (p : Nat × Obj), p ∈ rest B0 ks w m ↔ (p.1 < m ∧ B0 ≤ p.1 ∧ p.1 ∉ ks ∧ w.heap[p.1]? = some p.2)
  | 0, p => by simp [rest]
  | m + 1, p => by
    have ih := rest_mem (ks := ks) m p
    have key : p.1 < m + 1 ↔ (p.1 < m ∨ p.1 = m) := by omega
    unfold rest
    split
    · rename_i o ho
      split
      · rename_i hc
        rw [List.mem_cons, ih]
        constructor
        · rintro (rfl | ⟨h1, h2⟩)
          · exact ⟨by simp, hc.1, hc.2, ho⟩
          · exact ⟨by omega, h2⟩
        · rintro ⟨h1, h2, h3, h4⟩
          rcases key.1 h1 with h | h
          · exact .inr ⟨h, h2, h3, h4⟩
          · left
            rw [h, ho] at h4
            exact Prod.ext h (Option.some.inj h4).symm
      · rename_i hc
        rw [ih]
        constructor
        · rintro ⟨h1, h2⟩; exact ⟨by omega, h2⟩
        · rintro ⟨h1, h2, h3, h4⟩
          refine ⟨?_, h2, h3, h4⟩
          rcases key.1 h1 with h | h
          · exact h
          · exact absurd ⟨h ▸ h2, h ▸ h3⟩ hc
    · rename_i ho
      rw [ih]
      constructor
      · rintro ⟨h1, h2⟩; exact ⟨by omega, h2⟩
      · rintro ⟨h1, h2, h3, h4⟩
        refine ⟨?_, h2, h3, h4⟩
        rcases key.1 h1 with h | h
        · exact h
        · rw [h, ho] at h4; cases h4
theorem rep_addAll (hR : Rep B0 w0 L w) : ∀ m, Rep B0 w0 (rest B0 (L.map (·.1)) w m ++ L) w
  | 0 => hR
  | m + 1 => by
    have ih := rep_addAll hR m
    unfold rest
    split
    · rename_i o ho
      split
      · rename_i hc
        refine ih.add hc.1 ho fun p hp e => ?_
        rcases List.mem_append.1 hp with hp | hp
        · have := ((rest_mem m p).1 hp).1
          omega
        · exact hc.2 (List.mem_map.2 ⟨p, hp, e⟩)
      · exact ih
    · exact ih
theorem RK.lift {f : FuncId} {args : Array Value} {R : Ending → Prop} (hR : RK W0 B0 w0 L w) (hL : ∀ p ∈ L, p.2.isCells = true) (hk : L'.map (·.1) = L.map (·.1)) (hc : ∀ M, Rep B0 w0 (M ++ L) w → Calls P f args w fun e w' => R e ∧ Rep B0 w0 (M ++ L') w') :
  Calls P f args w fun e w' => R e ∧ RK W0 B0 w0 L' w' := by
 have hA := rep_addAll hR.rep w.heap.size
 refine (hc _ hA).mono fun e w' ⟨he, hw⟩ => ⟨he, hw.weaken (List.sublist_append_right _ _), hR.kept.trans ?_⟩
 have hlt : ∀ k, k < B0 → w'.heap[k]? = w.heap[k]? := fun k hk => (hw.below.block k hk).trans (hR.rep.below.block k hk).symm
 have hs : ∀ (k : Nat) (o : Obj), w.heap[k]? = some o → k ∉ L.map (·.1) → w'.heap[k]? = some o := fun k o hk hn => by
  rcases Nat.lt_or_ge k B0 with h | h
  ·rw [hlt k h]; exact hk
  ·exact (hw.own (k, o) (List.mem_append_left _ ((rest_mem _ _).2 ⟨(Array.getElem?_eq_some_iff.1 hk).1, h, hn, hk⟩))).2
 have hin : ∀ k, k ∈ L.map (·.1) → k < w'.heap.size := fun k hk' => by
  rw [← hk] at hk'
  obtain ⟨p, hp, rfl⟩ := List.mem_map.1 hk'
  exact (Array.getElem?_eq_some_iff.1 (hw.own p (List.mem_append_right _ hp)).2).1
 refine ⟨?_, fun k o hk hn => hs k o hk fun hm => ?_⟩
 ·rcases Nat.eq_zero_or_pos w.heap.size with h0 | h0
  ·omega
  ·have hlast : w.heap.size - 1 < w.heap.size := by omega
   by_cases hm : w.heap.size - 1 ∈ L.map (·.1)
   ·have := hin _ hm
    omega
   ·have := (Array.getElem?_eq_some_iff.1 (hs (w.heap.size - 1) _ (Array.getElem?_eq_getElem hlast) hm)).1
    omega
 ·obtain ⟨p, hp, rfl⟩ := List.mem_map.1 hm
  have h1 := (hR.rep.own p hp).2
  rw [hk] at h1
  have h2 := hL p hp
  rw [← Option.some.inj h1, hn] at h2
  cases h2
end
end
section
attribute [local go_sem] Oper.semAt_some
abbrev Nm (q : Nat) := { x : Nat // x < q }
def dnN (len : Nat) {q : Nat} (zs : Nat → Nm q) (m : Nat) : List (Int × Nm q) := (List.range (len - m)).map fun k => (((len - 1 - k : Nat) : Int), zs (len - 1 - k))
theorem dnN_top (len : Nat) {q : Nat} (zs : Nat → Nm q) : dnN len zs len = [] := by simp [dnN]
theorem dnN_succ (len : Nat) {q : Nat} (zs : Nat → Nm q) {m : Nat} (h : m < len) : dnN len zs m = dnN len zs (m + 1) ++ [((m : Int), zs m)] := by
 unfold dnN
 rw [show len - m = (len - (m + 1)) + 1 by omega, List.range_succ, List.map_append, List.map_cons, List.map_nil, show len - 1 - (len - (m + 1)) = m by omega]
theorem dnN_length (len : Nat) {q : Nat} (zs : Nat → Nm q) (m : Nat) : (dnN len zs m).length = len - m := by simp [dnN]
section
variable {F : Fence} {n0 : Nat} {P : Program} {ops : Array Oper} {rest : List Oper} {o : Oper} {a : Act} {w : World} {Q : Exit → Act → World → Prop}
theorem in_loadP (hg : o.guard = none) {ty : TypeId} {x : Operand} (ho : o.op = .load ty x) {ad : Addr} (hx : a.eval x = .pointer (some ad)) {v : Value} (hv : (loadVar ty ad).run P w = .ok v w) (h : wpListIn F n0 P ops Q rest (a.put o.dst v) w) : wpListIn F n0 P ops Q (o :: rest) a w :=
 in_ok hg (by intro c; rw [ho]; exact fun h => nomatch h) (by unfold Oper.about; simp only [ho]) (by unfold execOp; simp only [ho, hx, Instr.loadAt, Instr.sureAddr, Sem.run_bind, Sem.run_pure, Result.andThen_ok, hv]) h
end
theorem backN1_in (F : Fence) (n : Nat) (h7 : F.fn 123) (hro : F.round = none) (hn : 1 ≤ n) (l Bs b o len cap : Nat) (pa : Option Addr) {q : Nat} (zs : Nat → Nm q) (hlen : len ≤ 1000000) (hpa : 0 < len → pa = some ⟨b, o, none⟩) (J Jx : List (Int × Nm q) → World → Prop)
  (hY : ∀ pre (x : Int × Nm q) W, J pre W → pre.length < len → YieldAt F (n - 1) Tryz.prog l #[.int .i64 x.1, num x.2.1] W fun e W' =>
   (e = .returned (.bool true) ∧ J (pre ++ [x]) W' ∧ keepS [Bs, b] W W') ∨ (e = .returned (.bool false) ∧ Jx (pre ++ [x]) W'))
  (W : World) (hBs : W.cell? ⟨Bs, 0, none⟩ = some (.slice pa len cap)) (hc : ∀ j, j < len → xDt W b (o + j * 4) (zs j).1) (h0 : J [] W) :
  CallsIn F n Tryz.prog 123 #[.func (.yield l) #[] #[], .pointer (some ⟨Bs, 0, none⟩)] W fun e W' => (∃ v, e = .returned v) ∧
   ((∃ ys, ys = dnN len zs 0 ∧ J ys W') ∨ (∃ pre, True ∧ Jx pre W')) := by
 refine callsIn_of_wp Tryz.func123 rfl h7 ?_ hro
 simp only [Tryz.ntmps123, List.size_toArray, List.length_cons, List.length_nil, Nat.reduceAdd, Nat.reduceSub, Array.replicate_succ, Array.replicate_zero, List.push_toArray, List.append_toArray, List.nil_append, List.cons_append]
 gi_wp2
 gi_loopw [3] (fun i wr => ∃ m : Nat, m ≤ len ∧ i = .int .i64 ((m : Int) - 1) ∧ J (dnN len zs m) wr ∧ keepS [Bs, b] W wr)
  (fun i _ => (intOf i + 1).toNat)
 case atStart => exact ⟨len, Nat.le_refl _, by simp, by rw [dnN_top]; exact h0, fun _ _ => rfl⟩
 case round =>
  obtain ⟨m, hm, rfl, hJs, hnx⟩ := hrel
  have hbox : wr.cell? ⟨Bs, 0, none⟩ = some (.slice pa len cap) := (hnx ⟨Bs, 0, none⟩ (by simp)).trans hBs
  cases m with
  | zero =>
   gi_wp2
   go_end0
   exact ⟨⟨_, rfl⟩, .inl ⟨_, rfl, hJs⟩⟩
  | succ m =>
   obtain ⟨a0, a1, a2, a3⟩ := hc m (by omega)
   rw [← hnx ⟨b, _, none⟩ (by simp)] at a0 a1 a2 a3
   have ln1 : (loadVar 24 ⟨b, o + m * 4, none⟩).run Tryz.prog wr = .ok (num (zs m).1) wr := xDt.load ⟨a0, a1, a2, a3⟩
   obtain rfl := hpa (by omega)
   have ls1 : (loadVar 27 ⟨Bs, 0, none⟩).run Tryz.prog wr = .ok (.slice (some ⟨b, o, none⟩) len cap) wr := load_cell hbox
   clear a0 a1 a2 a3
   obtain ⟨fn, tmps, assign, body, hy, hR⟩ := hY _ ((m : Int), zs m) wr hJs (by rw [dnN_length]; omega)
   dsimp only at hy
   rw [show ((m + 1 : Nat) : Int) - 1 = (m : Int) by omega]
   have hm1 : (m : Int) < (len : Int) := by omega
   have hm2 : 0 ≤ (m : Int) := by omega
   gi_wp2_with (first | (refine' in_loadP rfl rfl rfl ls1 ?_) | (refine' in_loadP rfl rfl rfl ln1 ?_))
   refine hR.mono ?_
   rintro e W3 (⟨rfl, hJ3, hk3⟩ | ⟨rfl, hJx3⟩)
   ·gi_wp2
    go_roundw
    case rel => exact ⟨m, by omega, rfl, by rw [dnN_succ len zs (by omega)]; exact hJ3, keepS_t hnx hk3⟩
    case measure => simp [intOf]
   ·gi_wp2
    refine bodyPost_ret (results_none rfl _ _ _) rfl ?_
    exact ⟨⟨_, rfl⟩, .inr ⟨_, trivial, hJx3⟩⟩
theorem backN_stops (F : Fence) (n : Nat) (h7 : F.fn 123) (hro : F.round = none) (hn : 1 ≤ n) (Bs b o len cap : Nat) (pa : Option Addr) {q : Nat} (zs : Nat → Nm q) (hlen : len ≤ 1000000) (hpa : 0 < len → pa = some ⟨b, o, none⟩) (w : World) (hb : ∀ x ∈ [Bs, b], x < w.heap.size)
  (hBs : w.cell? ⟨Bs, 0, none⟩ = some (.slice pa len cap)) (hc : ∀ j, j < len → xDt w b (o + j * 4) (zs j).1) :
  SeqStopsK F n Tryz.prog 123 #[.pointer (some ⟨Bs, 0, none⟩)] (fun x : Int × Nm q => #[Value.int .i64 x.1, num x.2.1]) (keepS [Bs, b]) (fun ys => ys = dnN len zs 0) (fun _ => True) len w := fun l J Jx W hW _ _ hY h0 => by
 have kp : ∀ p : Addr, p.block ∈ [Bs, b] → ∀ v, w.cell? p = some v → W.cell? p = some v := fun p hp v hv => (hW.cell (p := p) (by exact hb _ hp)).trans hv
 refine backN1_in F n h7 hro hn l Bs b o len cap pa zs hlen hpa J Jx hY W (kp _ (by simp) _ hBs) (fun j hj => ?_) h0
 obtain ⟨a0, a1, a2, a3⟩ := hc j hj
 exact ⟨kp _ (by simp) _ a0, kp _ (by simp) _ a1, kp _ (by simp) _ a2, kp _ (by simp) _ a3⟩
theorem backwardN_any (a : Option Addr) (len cap : Nat) (w : World) :
  Calls Tryz.prog 32 #[.slice a len cap] w fun e w' => e = .returned (.func (.func 123) #[] #[.pointer (some ⟨w.heap.size, 0, none⟩)]) ∧ w' = w.alloc (.cells #[.slice a len cap] 27) := by
 go_enter Tryz.func32, Tryz.ntmps32
 go_wp2
 go_ret
 exact ⟨rfl, rfl⟩
end
section
attribute [local go_sem] Oper.semAt_some
attribute [local irreducible] Calls Instr.build Instr.buildSlice
instance zeroPfl : xKf Tryz.prog 77 [.pointer none] := ⟨.pointer none, by kernel_rfl, rfl⟩
instance cellPfl : xDp Tryz.prog 77 := .mk' (by kernel_rfl) (by kernel_rfl)
noncomputable def hvL {q : Nat} (x : Nat) (l : List (Int × Nm q)) : Nat := l.foldl (fun r c => (mulN r x q + c.2.1) % q) 0
theorem hvL_nil {q : Nat} (x : Nat) : hvL (q := q) x [] = 0 := rfl
theorem hvL_snoc {q : Nat} (x : Nat) (l : List (Int × Nm q)) (c : Int × Nm q) : hvL x (l ++ [c]) = (mulN (hvL x l) x q + c.2.1) % q := by
 unfold hvL; rw [List.foldl_append]; rfl
theorem hvL_lt {q : Nat} (h : 1 < q) (x : Nat) (l : List (Int × Nm q)) : hvL x l < q := by
 rcases List.eq_nil_or_concat l with rfl | ⟨l, c, rfl⟩
 ·rw [hvL_nil]; omega
 ·rw [List.concat_eq_append, hvL_snoc]; exact Nat.mod_lt _ (by omega)
noncomputable def slotsA {q : Nat} (l : List Value) (x : Int × Nm q) (c : Nat) : List Value := ((l.set 30 (.int .i64 x.1)).set 31 (num x.2.1)).set 11 (.pointer (some ⟨c, 0, none⟩))
theorem range_back {q : Nat} {Q : Exit → Act → World → Prop} {B0 : Nat} {w0 : World} {l : List Value} {w : World} {ac bc : Code} (zs : Nat → Nm q) (Bs b o len cap : Nat) (pa : Option Addr) (LL : List (Int × Nm q) → List (Nat × Obj))
  (hg : (Act.mk l.toArray []).eval (.tmp 29) = .func (.func 123) #[] #[.pointer (some ⟨Bs, 0, none⟩)])
  (hlen : len ≤ 1000000) (hpa : 0 < len → pa = some ⟨b, o, none⟩) (hb : ∀ x ∈ [Bs, b], x < w.heap.size) (hBs : w.cell? ⟨Bs, 0, none⟩ = some (.slice pa len cap)) (hc : ∀ j, j < len → xDt w b (o + j * 4) (zs j).1)
  (hR : Rep B0 w0 (LL []) w) (hL : ∀ pre p, p ∈ LL pre → p.2.isCells = true)
  (hkeep : ∀ (L1 L2 : List (Nat × Obj)) (pre pre' : List (Int × Nm q)) (W W' : World), Rep B0 w0 (L1 ++ LL pre) W → Rep B0 w0 (L2 ++ LL pre') W' → keepS [Bs, b] W W')
  (hvars : ∀ (k : Nat) (pre : List (Int × Nm q)) (x : Int × Nm q) (W : World) (K : Act → World → Prop), RK W B0 w0 (LL pre) W → (∀ c W', RK W B0 w0 ((c, .cells (nl x.2.1).toArray 24) :: LL pre) W' → K ⟨(slotsA l x c).toArray, []⟩ W') →
   ac.wpIn (Fence.wide.inRound k) 3 Tryz.prog (Exit.then K (fun _ _ _ => False)) ⟨((l.set 30 (.int .i64 x.1)).set 31 (num x.2.1)).toArray, []⟩ W)
  (hbody : ∀ (k : Nat) (pre : List (Int × Nm q)) (x : Int × Nm q) (c : Nat) (W : World), RK W B0 w0 ((c, .cells (nl x.2.1).toArray 24) :: LL pre) W →
   bc.wpIn (Fence.wide.inRound k) 3 Tryz.prog (roundPost W B0 w0 (LL (pre ++ [x])) [] True False) ⟨(slotsA l x c).toArray, []⟩ W)
  (hdone : ∀ (D : Nat) (W : World), Rep B0 w0 ((D, .deferred (some [])) :: LL (dnN len zs 0)) W → Q .normal ⟨l.toArray, [{ target := .collected D, args := #[] }]⟩ W) :
  (Code.rangeFunc (.tmp 29) #[30, 31] ac bc).wp Tryz.prog Q ⟨l.toArray, []⟩ w := by
 refine (wpIn_wide (n := 5)).1 ?_
 have own : ∀ (G : List (Int × Nm q) → List (Nat × Obj)), (∀ s p, p ∈ G s → p.2.isCells = true) → OwnFrom w.heap.size (fun s W => Rep B0 w0 (G s) W) := fun G hG => xKg hR.le hG
 have notIn : ∀ {L : List (Nat × Obj)} {D : Nat} {W : World}, (∀ p, p ∈ L → p.2.isCells = true) → Rep B0 w0 L W → W.heap[D]? = some (.deferred (some [])) → ∀ p, p ∈ L → p.1 ≠ D := fun hG h hD p hp e => by
  have h1 := (h.own p hp).2
  have h2 := hG p hp
  rw [e, hD] at h1
  rw [← Option.some.inj h1] at h2
  cases h2
 refine xEe rfl (by decide) (gf := 123) (lb := #[.pointer (some ⟨Bs, 0, none⟩)]) hg trivial (fun args w => xAi Tryz.func123 (by kernel_rfl) (by kernel_rfl) args w)
  (backN_stops Fence.wide 4 trivial rfl (by decide) Bs b o len cap pa zs hlen hpa w hb hBs hc) keepS_t (keepS_b hb) (fun _ => rfl)
  (fun pre W => Rep B0 w0 (LL pre) W) (fun pre x b W => ∃ c : Nat, b = ⟨(slotsA l x c).toArray, []⟩ ∧ Rep B0 w0 ((c, .cells (nl x.2.1).toArray 24) :: LL pre) W) (fun c pre W => False)
  (own LL hL) (fun x b => ?own1) (fun c => fun _ _ _ _ h _ _ => h) hR ?vars ?body ?done ?stop
 case own1 =>
  rintro pre W W' row ⟨c, hc, h⟩ hg hr
  exact ⟨c, hc, xKg (L := fun (_ : List (Int × Nm q)) => (c, Obj.cells (nl x.2.1).toArray 24) :: LL pre) hR.le (fun _ p hp => by
   rcases List.mem_cons.1 hp with rfl | hp
   ·rfl
   ·exact hL pre p hp) [] W W' row h hg hr⟩
 case vars =>
  rintro k pre x W K hw hl hK
  have hz : ((#[30, 31] : Array Tmp).zip (#[Value.int .i64 x.1, num x.2.1])).foldl (fun t (x : Tmp × Value) => t.setIfInBounds x.1 x.2) l.toArray = ((l.set 30 (Value.int .i64 x.1)).set 31 (num x.2.1)).toArray := zip_slots l _ _
  rw [hz]
  refine hvars k pre x W K ⟨hw, KeepsOthers.refl W⟩ fun c W' hw' => ?_
  exact hK _ W' hw'.kept (hkeep [] [_] pre pre W W' hw hw'.rep) ⟨c, rfl, hw'.rep⟩
 case body =>
  rintro k pre x b W ⟨c, rfl, hw⟩
  refine wpIn_mono (hbody k pre x c W ⟨hw, KeepsOthers.refl W⟩) ?_
  rintro e a' W' hp
  cases e with
  | normal => exact ⟨hp.1.kept, hkeep [_] [] pre _ W W' hw hp.1.rep, hp.1.rep⟩
  | ret => exact hp.2.elim
  | exit id => exact hp.elim
  | goto t => exact hp.elim
  | panic ch => exact hp.elim
  | outgrown => exact hp.elim
 case done =>
  rintro D ys W hle rfl hw hD
  have := hR.le
  exact hdone D W (hw.add (by omega) hD (notIn (hL _) hw hD))
 case stop =>
  rintro D c pre W hle _ h hD
  exact h.elim
section
variable {p q g h : Nat} {W : World} {a : Option Addr} {n cp : Nat} {f : Nat → Nat} {x : Nat}
theorem at_bad (hp : p < B) (hq : q < B) (hx : x < B) (hA : NAt W.heap.size W [] a n cp f) (hn : n ≤ 1000000) (hno : ¬ ((1 < q ∧ ∀ j, j < n → f j < q) ∧ x < q)) :
  Calls Tryz.prog 8 #[grp p q g h, .slice a n cp, num x] W fun en w' => en = .returned (.tuple #[num 0, .int .i64 1]) ∧ Below W.heap.size W w' := by
 classical
 have hR := Rep.init W
 have cp0 := fun (s : Bool) (hs : s = true ↔ (1 < q ∧ ∀ j, j < n → f j < q)) (L : List (Nat × Obj)) (w : World) (hw : Rep W.heap.size W L w) => xFx (p := p) (g := g) (h := h) hq (hA.any (L := L)) hn s hs hw
 by_cases h1 : (1 < q ∧ ∀ j, j < n → f j < q)
 ·have cp1 := cp0 true ⟨fun _ => h1, fun _ => rfl⟩
  have cm := fun (b : Nat) (L : List (Nat × Obj)) (w : World) (hm : (b, Obj.cells (nl x).toArray 24) ∈ L) (hw : Rep W.heap.size W L w) => xFx (p := p) (g := g) (h := h) hq (nat_one hx hm) (by decide) false ⟨fun hh => (nomatch hh), fun hh => absurd ⟨h1, hh.2 0 (by decide)⟩ hno⟩ hw
  clear cp0 hno h1 hA
  go_enter Tryz.func8, Tryz.ntmps8
  go_wp2_with (first | (refine' aAq hR ?_; clear hR; intro blk w hR) | (refine' aBq hR ?_; clear hR; intro blk w hR) | (refine' aNq hR ?_) | (refine' aRq hR ?_; clear hR; intro w hR) | (refine' aVq hR ?_) | (refine' xEd hR rfl rfl rfl ?_; clear hR; intro bt w hR) | (go_at_call 31; refine (cp1 _ _ hR).mono ?_; clear hR; rintro e w ⟨rfl, hR⟩) | (go_at_call 31; refine (cm _ _ _ (.head _) hR).mono ?_; clear hR; rintro e w ⟨rfl, hR⟩))
  (refine' bodyPost_ret (xAh Tryz.results8 rfl (hR.loadAll (P := Tryz.prog) (ty := 24) ?hm ?hn)) rfl ⟨?_, hR.below⟩; (case hm => repeat (first | exact .head _ | with_reducible assumption | apply mC)); (case hn => rfl))
  rw [xBe]
  rfl
 ·have cp1 := cp0 false ⟨fun hh => (nomatch hh), fun hh => absurd hh h1⟩
  clear cp0 hno h1 hA
  go_enter Tryz.func8, Tryz.ntmps8
  go_wp2_with (first | go_skip | (refine' aAq hR ?_; clear hR; intro blk w hR) | (refine' aBq hR ?_; clear hR; intro blk w hR) | (refine' aNq hR ?_) | (refine' aRq hR ?_; clear hR; intro w hR) | (go_at_call 31; refine (cp1 _ _ hR).mono ?_; clear hR; rintro e w ⟨rfl, hR⟩))
  (refine' bodyPost_ret (xAh Tryz.results8 rfl (hR.loadAll (P := Tryz.prog) (ty := 24) ?hm ?hn)) rfl ⟨?_, hR.below⟩; (case hm => repeat (first | exact .head _ | with_reducible assumption | apply mC)); (case hn => rfl))
  rw [xBe]
  rfl
theorem at_go (hp : p < B) (hq : q < B) (hA : NAt W.heap.size W [] a n cp f) (hn : n ≤ 1000000) (h1 : 1 < q) (hf : ∀ j, j < n → f j < q) {xv : Nat} (hx : xv < q) (zs : Nat → Nm q) (hz : ∀ j, j < n → (zs j).1 = f j) :
  Calls Tryz.prog 8 #[grp p q g h, .slice a n cp, num xv] W fun en w' => en = .returned (.tuple #[num (hvL xv (dnN n zs 0)), .int .i64 0]) ∧ Below W.heap.size W w' := by
 have hR := Rep.init W
 have hxB := Nat.lt_trans hx hq
 have cp1 := fun (L : List (Nat × Obj)) (w : World) (hw : Rep W.heap.size W L w) => xFx (p := p) (g := g) (h := h) hq (hA.any (L := L)) hn true ⟨fun _ => ⟨h1, hf⟩, fun _ => rfl⟩ hw
 have cm := fun (b : Nat) (L : List (Nat × Obj)) (w : World) (hm : (b, Obj.cells (nl xv).toArray 24) ∈ L) (hw : Rep W.heap.size W L w) => xFx (p := p) (g := g) (h := h) hq (nat_one hxB hm) (by decide) true ⟨fun _ => ⟨h1, fun _ _ => hx⟩, fun _ => rfl⟩ hw
 have bf := fun w => xKe p q g h w
 have hNums : ∀ w, Rep W.heap.size W [] w → xKk w a n f := fun w hw => hA.nums hw
 have hNA := hNums W hR
 replace hNA := Held.mk hNA
 clear hNums
 replace hA := Held.mk hA
 replace hf := Held.mk hf
 replace hz := Held.mk hz
 refine (callsIn_wide (n := 5)).1 ?_
 refine callsIn_of_wp_marks Tryz.func8 rfl trivial ?_ rfl
 simp only [Tryz.ntmps8, List.size_toArray, List.length_cons, List.length_nil, Nat.reduceAdd, Nat.reduceSub, Array.replicate_succ, Array.replicate_zero, List.push_toArray, List.append_toArray, List.nil_append, List.cons_append]
 refine wpIn_wide.2 ?_
 go_wp2_with (first | (refine' aAq hR ?_; clear hR; intro blk w hR) | (refine' aBq hR ?_; clear hR; intro blk w hR) | (refine' aNq hR ?_) | (refine' aRq hR ?_; clear hR; intro w hR) | (refine' aUq hR ?_; clear hR; intro w hR) | (refine' aVq hR ?_) | (refine' xCk rfl rfl rfl bf ?_) | (refine' xEd hR rfl rfl rfl ?_; clear hR; intro bt w hR) | (go_at_call 31; refine (cp1 _ _ hR).mono ?_; clear hR; rintro e w ⟨rfl, hR⟩) | (go_at_call 31; refine (cm _ _ _ (.head _) hR).mono ?_; clear hR; rintro e w ⟨rfl, hR⟩) | (go_at_call 32; refine (backwardN_any _ _ _ _).mono ?_; rintro e w1 ⟨rfl, rfl⟩; have hBox := hR.alloc (.cells (List.toArray [Value.slice a n cp]) 27); clear hR))
 clear cp1 cm bf
 (first | (rename_i b8; change Nat at b8) | (rename_i b8 _; change Nat at b8) | (rename_i b8 _ _; change Nat at b8) | (rename_i b8 _ _ _; change Nat at b8) | (rename_i b8 _ _ _ _; change Nat at b8) | (rename_i b8 _ _ _ _ _; change Nat at b8) | (rename_i b8 _ _ _ _ _ _; change Nat at b8) | (rename_i b8 _ _ _ _ _ _ _; change Nat at b8) | (rename_i b8 _ _ _ _ _ _ _ _; change Nat at b8) | (rename_i b8 _ _ _ _ _ _ _ _ _; change Nat at b8) | (rename_i b8 _ _ _ _ _ _ _ _ _ _; change Nat at b8) | (rename_i b8 _ _ _ _ _ _ _ _ _ _ _; change Nat at b8) | (rename_i b8 _ _ _ _ _ _ _ _ _ _ _ _; change Nat at b8) | (rename_i b8 _ _ _ _ _ _ _ _ _ _ _ _ _; change Nat at b8) | (rename_i b8 _ _ _ _ _ _ _ _ _ _ _ _ _ _; change Nat at b8) | (rename_i b8 _ _ _ _ _ _ _ _ _ _ _ _ _ _ _; change Nat at b8) | (rename_i b8 _ _ _ _ _ _ _ _ _ _ _ _ _ _ _ _; change Nat at b8) | (rename_i b8 _ _ _ _ _ _ _ _ _ _ _ _ _ _ _ _ _; change Nat at b8) | (rename_i b8 _ _ _ _ _ _ _ _ _ _ _ _ _ _ _ _ _ _; change Nat at b8) | (rename_i b8 _ _ _ _ _ _ _ _ _ _ _ _ _ _ _ _ _ _ _; change Nat at b8) | (rename_i b8 _ _ _ _ _ _ _ _ _ _ _ _ _ _ _ _ _ _ _ _; change Nat at b8) | (rename_i b8 _ _ _ _ _ _ _ _ _ _ _ _ _ _ _ _ _ _ _ _ _; change Nat at b8) | (rename_i b8 _ _ _ _ _ _ _ _ _ _ _ _ _ _ _ _ _ _ _ _ _ _; change Nat at b8) | (rename_i b8 _ _ _ _ _ _ _ _ _ _ _ _ _ _ _ _ _ _ _ _ _ _ _; change Nat at b8) | (rename_i b8 _ _ _ _ _ _ _ _ _ _ _ _ _ _ _ _ _ _ _ _ _ _ _ _; change Nat at b8) | (rename_i b8 _ _ _ _ _ _ _ _ _ _ _ _ _ _ _ _ _ _ _ _ _ _ _ _ _; change Nat at b8) | (rename_i b8 _ _ _ _ _ _ _ _ _ _ _ _ _ _ _ _ _ _ _ _ _ _ _ _ _ _; change Nat at b8) | (rename_i b8 _ _ _ _ _ _ _ _ _ _ _ _ _ _ _ _ _ _ _ _ _ _ _ _ _ _ _; change Nat at b8) | (rename_i b8 _ _ _ _ _ _ _ _ _ _ _ _ _ _ _ _ _ _ _ _ _ _ _ _ _ _ _ _; change Nat at b8) | (rename_i b8 _ _ _ _ _ _ _ _ _ _ _ _ _ _ _ _ _ _ _ _ _ _ _ _ _ _ _ _ _; change Nat at b8))
 (first | (rename_i fb; change Nat at fb) | (rename_i fb _; change Nat at fb) | (rename_i fb _ _; change Nat at fb) | (rename_i fb _ _ _; change Nat at fb) | (rename_i fb _ _ _ _; change Nat at fb) | (rename_i fb _ _ _ _ _; change Nat at fb) | (rename_i fb _ _ _ _ _ _; change Nat at fb) | (rename_i fb _ _ _ _ _ _ _; change Nat at fb) | (rename_i fb _ _ _ _ _ _ _ _; change Nat at fb) | (rename_i fb _ _ _ _ _ _ _ _ _; change Nat at fb) | (rename_i fb _ _ _ _ _ _ _ _ _ _; change Nat at fb) | (rename_i fb _ _ _ _ _ _ _ _ _ _ _; change Nat at fb) | (rename_i fb _ _ _ _ _ _ _ _ _ _ _ _; change Nat at fb) | (rename_i fb _ _ _ _ _ _ _ _ _ _ _ _ _; change Nat at fb) | (rename_i fb _ _ _ _ _ _ _ _ _ _ _ _ _ _; change Nat at fb) | (rename_i fb _ _ _ _ _ _ _ _ _ _ _ _ _ _ _; change Nat at fb) | (rename_i fb _ _ _ _ _ _ _ _ _ _ _ _ _ _ _ _; change Nat at fb) | (rename_i fb _ _ _ _ _ _ _ _ _ _ _ _ _ _ _ _ _; change Nat at fb) | (rename_i fb _ _ _ _ _ _ _ _ _ _ _ _ _ _ _ _ _ _; change Nat at fb) | (rename_i fb _ _ _ _ _ _ _ _ _ _ _ _ _ _ _ _ _ _ _; change Nat at fb) | (rename_i fb _ _ _ _ _ _ _ _ _ _ _ _ _ _ _ _ _ _ _ _; change Nat at fb) | (rename_i fb _ _ _ _ _ _ _ _ _ _ _ _ _ _ _ _ _ _ _ _ _; change Nat at fb) | (rename_i fb _ _ _ _ _ _ _ _ _ _ _ _ _ _ _ _ _ _ _ _ _ _; change Nat at fb) | (rename_i fb _ _ _ _ _ _ _ _ _ _ _ _ _ _ _ _ _ _ _ _ _ _ _; change Nat at fb) | (rename_i fb _ _ _ _ _ _ _ _ _ _ _ _ _ _ _ _ _ _ _ _ _ _ _ _; change Nat at fb) | (rename_i fb _ _ _ _ _ _ _ _ _ _ _ _ _ _ _ _ _ _ _ _ _ _ _ _ _; change Nat at fb) | (rename_i fb _ _ _ _ _ _ _ _ _ _ _ _ _ _ _ _ _ _ _ _ _ _ _ _ _ _; change Nat at fb) | (rename_i fb _ _ _ _ _ _ _ _ _ _ _ _ _ _ _ _ _ _ _ _ _ _ _ _ _ _ _; change Nat at fb) | (rename_i fb _ _ _ _ _ _ _ _ _ _ _ _ _ _ _ _ _ _ _ _ _ _ _ _ _ _ _ _; change Nat at fb) | (rename_i fb _ _ _ _ _ _ _ _ _ _ _ _ _ _ _ _ _ _ _ _ _ _ _ _ _ _ _ _ _; change Nat at fb))
 (first | (rename_i b6; change Nat at b6) | (rename_i b6 _; change Nat at b6) | (rename_i b6 _ _; change Nat at b6) | (rename_i b6 _ _ _; change Nat at b6) | (rename_i b6 _ _ _ _; change Nat at b6) | (rename_i b6 _ _ _ _ _; change Nat at b6) | (rename_i b6 _ _ _ _ _ _; change Nat at b6) | (rename_i b6 _ _ _ _ _ _ _; change Nat at b6) | (rename_i b6 _ _ _ _ _ _ _ _; change Nat at b6) | (rename_i b6 _ _ _ _ _ _ _ _ _; change Nat at b6) | (rename_i b6 _ _ _ _ _ _ _ _ _ _; change Nat at b6) | (rename_i b6 _ _ _ _ _ _ _ _ _ _ _; change Nat at b6) | (rename_i b6 _ _ _ _ _ _ _ _ _ _ _ _; change Nat at b6) | (rename_i b6 _ _ _ _ _ _ _ _ _ _ _ _ _; change Nat at b6) | (rename_i b6 _ _ _ _ _ _ _ _ _ _ _ _ _ _; change Nat at b6) | (rename_i b6 _ _ _ _ _ _ _ _ _ _ _ _ _ _ _; change Nat at b6) | (rename_i b6 _ _ _ _ _ _ _ _ _ _ _ _ _ _ _ _; change Nat at b6) | (rename_i b6 _ _ _ _ _ _ _ _ _ _ _ _ _ _ _ _ _; change Nat at b6) | (rename_i b6 _ _ _ _ _ _ _ _ _ _ _ _ _ _ _ _ _ _; change Nat at b6) | (rename_i b6 _ _ _ _ _ _ _ _ _ _ _ _ _ _ _ _ _ _ _; change Nat at b6) | (rename_i b6 _ _ _ _ _ _ _ _ _ _ _ _ _ _ _ _ _ _ _ _; change Nat at b6) | (rename_i b6 _ _ _ _ _ _ _ _ _ _ _ _ _ _ _ _ _ _ _ _ _; change Nat at b6) | (rename_i b6 _ _ _ _ _ _ _ _ _ _ _ _ _ _ _ _ _ _ _ _ _ _; change Nat at b6) | (rename_i b6 _ _ _ _ _ _ _ _ _ _ _ _ _ _ _ _ _ _ _ _ _ _ _; change Nat at b6) | (rename_i b6 _ _ _ _ _ _ _ _ _ _ _ _ _ _ _ _ _ _ _ _ _ _ _ _; change Nat at b6) | (rename_i b6 _ _ _ _ _ _ _ _ _ _ _ _ _ _ _ _ _ _ _ _ _ _ _ _ _; change Nat at b6) | (rename_i b6 _ _ _ _ _ _ _ _ _ _ _ _ _ _ _ _ _ _ _ _ _ _ _ _ _ _; change Nat at b6) | (rename_i b6 _ _ _ _ _ _ _ _ _ _ _ _ _ _ _ _ _ _ _ _ _ _ _ _ _ _ _; change Nat at b6) | (rename_i b6 _ _ _ _ _ _ _ _ _ _ _ _ _ _ _ _ _ _ _ _ _ _ _ _ _ _ _ _; change Nat at b6) | (rename_i b6 _ _ _ _ _ _ _ _ _ _ _ _ _ _ _ _ _ _ _ _ _ _ _ _ _ _ _ _ _; change Nat at b6))
 (first | (rename_i b5; change Nat at b5) | (rename_i b5 _; change Nat at b5) | (rename_i b5 _ _; change Nat at b5) | (rename_i b5 _ _ _; change Nat at b5) | (rename_i b5 _ _ _ _; change Nat at b5) | (rename_i b5 _ _ _ _ _; change Nat at b5) | (rename_i b5 _ _ _ _ _ _; change Nat at b5) | (rename_i b5 _ _ _ _ _ _ _; change Nat at b5) | (rename_i b5 _ _ _ _ _ _ _ _; change Nat at b5) | (rename_i b5 _ _ _ _ _ _ _ _ _; change Nat at b5) | (rename_i b5 _ _ _ _ _ _ _ _ _ _; change Nat at b5) | (rename_i b5 _ _ _ _ _ _ _ _ _ _ _; change Nat at b5) | (rename_i b5 _ _ _ _ _ _ _ _ _ _ _ _; change Nat at b5) | (rename_i b5 _ _ _ _ _ _ _ _ _ _ _ _ _; change Nat at b5) | (rename_i b5 _ _ _ _ _ _ _ _ _ _ _ _ _ _; change Nat at b5) | (rename_i b5 _ _ _ _ _ _ _ _ _ _ _ _ _ _ _; change Nat at b5) | (rename_i b5 _ _ _ _ _ _ _ _ _ _ _ _ _ _ _ _; change Nat at b5) | (rename_i b5 _ _ _ _ _ _ _ _ _ _ _ _ _ _ _ _ _; change Nat at b5) | (rename_i b5 _ _ _ _ _ _ _ _ _ _ _ _ _ _ _ _ _ _; change Nat at b5) | (rename_i b5 _ _ _ _ _ _ _ _ _ _ _ _ _ _ _ _ _ _ _; change Nat at b5) | (rename_i b5 _ _ _ _ _ _ _ _ _ _ _ _ _ _ _ _ _ _ _ _; change Nat at b5) | (rename_i b5 _ _ _ _ _ _ _ _ _ _ _ _ _ _ _ _ _ _ _ _ _; change Nat at b5) | (rename_i b5 _ _ _ _ _ _ _ _ _ _ _ _ _ _ _ _ _ _ _ _ _ _; change Nat at b5) | (rename_i b5 _ _ _ _ _ _ _ _ _ _ _ _ _ _ _ _ _ _ _ _ _ _ _; change Nat at b5) | (rename_i b5 _ _ _ _ _ _ _ _ _ _ _ _ _ _ _ _ _ _ _ _ _ _ _ _; change Nat at b5) | (rename_i b5 _ _ _ _ _ _ _ _ _ _ _ _ _ _ _ _ _ _ _ _ _ _ _ _ _; change Nat at b5) | (rename_i b5 _ _ _ _ _ _ _ _ _ _ _ _ _ _ _ _ _ _ _ _ _ _ _ _ _ _; change Nat at b5) | (rename_i b5 _ _ _ _ _ _ _ _ _ _ _ _ _ _ _ _ _ _ _ _ _ _ _ _ _ _ _; change Nat at b5) | (rename_i b5 _ _ _ _ _ _ _ _ _ _ _ _ _ _ _ _ _ _ _ _ _ _ _ _ _ _ _ _; change Nat at b5) | (rename_i b5 _ _ _ _ _ _ _ _ _ _ _ _ _ _ _ _ _ _ _ _ _ _ _ _ _ _ _ _ _; change Nat at b5))
 (first | (rename_i b3; change Nat at b3) | (rename_i b3 _; change Nat at b3) | (rename_i b3 _ _; change Nat at b3) | (rename_i b3 _ _ _; change Nat at b3) | (rename_i b3 _ _ _ _; change Nat at b3) | (rename_i b3 _ _ _ _ _; change Nat at b3) | (rename_i b3 _ _ _ _ _ _; change Nat at b3) | (rename_i b3 _ _ _ _ _ _ _; change Nat at b3) | (rename_i b3 _ _ _ _ _ _ _ _; change Nat at b3) | (rename_i b3 _ _ _ _ _ _ _ _ _; change Nat at b3) | (rename_i b3 _ _ _ _ _ _ _ _ _ _; change Nat at b3) | (rename_i b3 _ _ _ _ _ _ _ _ _ _ _; change Nat at b3) | (rename_i b3 _ _ _ _ _ _ _ _ _ _ _ _; change Nat at b3) | (rename_i b3 _ _ _ _ _ _ _ _ _ _ _ _ _; change Nat at b3) | (rename_i b3 _ _ _ _ _ _ _ _ _ _ _ _ _ _; change Nat at b3) | (rename_i b3 _ _ _ _ _ _ _ _ _ _ _ _ _ _ _; change Nat at b3) | (rename_i b3 _ _ _ _ _ _ _ _ _ _ _ _ _ _ _ _; change Nat at b3) | (rename_i b3 _ _ _ _ _ _ _ _ _ _ _ _ _ _ _ _ _; change Nat at b3) | (rename_i b3 _ _ _ _ _ _ _ _ _ _ _ _ _ _ _ _ _ _; change Nat at b3) | (rename_i b3 _ _ _ _ _ _ _ _ _ _ _ _ _ _ _ _ _ _ _; change Nat at b3) | (rename_i b3 _ _ _ _ _ _ _ _ _ _ _ _ _ _ _ _ _ _ _ _; change Nat at b3) | (rename_i b3 _ _ _ _ _ _ _ _ _ _ _ _ _ _ _ _ _ _ _ _ _; change Nat at b3) | (rename_i b3 _ _ _ _ _ _ _ _ _ _ _ _ _ _ _ _ _ _ _ _ _ _; change Nat at b3) | (rename_i b3 _ _ _ _ _ _ _ _ _ _ _ _ _ _ _ _ _ _ _ _ _ _ _; change Nat at b3) | (rename_i b3 _ _ _ _ _ _ _ _ _ _ _ _ _ _ _ _ _ _ _ _ _ _ _ _; change Nat at b3) | (rename_i b3 _ _ _ _ _ _ _ _ _ _ _ _ _ _ _ _ _ _ _ _ _ _ _ _ _; change Nat at b3) | (rename_i b3 _ _ _ _ _ _ _ _ _ _ _ _ _ _ _ _ _ _ _ _ _ _ _ _ _ _; change Nat at b3) | (rename_i b3 _ _ _ _ _ _ _ _ _ _ _ _ _ _ _ _ _ _ _ _ _ _ _ _ _ _ _; change Nat at b3) | (rename_i b3 _ _ _ _ _ _ _ _ _ _ _ _ _ _ _ _ _ _ _ _ _ _ _ _ _ _ _ _; change Nat at b3) | (rename_i b3 _ _ _ _ _ _ _ _ _ _ _ _ _ _ _ _ _ _ _ _ _ _ _ _ _ _ _ _ _; change Nat at b3))
 replace hBox := hBox.weaken (L' := [_, _, _, _, _, _, _]) (.cons_cons _ (.cons_cons _ (.cons_cons _ (.cons_cons _ (.cons _ (List.Sublist.refl _))))))
 obtain ⟨Bs, hBs⟩ : ∃ x, w.heap.size = x := ⟨_, rfl⟩
 rw [hBs] at hBox ⊢
 generalize w.alloc (.cells (List.toArray [Value.slice a n cp]) 27) = W1 at hBox ⊢
 clear hBs
 have hBelow := hBox.below
 have hsz := hBox.le
 have lB := hBox.lt (.head _)
 have hH : ∃ ba oa, (ba = Bs ∨ ba < W.heap.size) ∧ (0 < n → a = some ⟨ba, oa, none⟩) ∧ ∀ j, j < n → xDt W1 ba (oa + j * 4) (f j) := hNA.out.seen Bs hBelow
 obtain ⟨ba, oa, lba, hpa, hca⟩ := hH
 refine range_back (B0 := W.heap.size) (w0 := W) zs Bs ba oa n cp a (fun pre => [(Bs, Obj.cells [Value.slice a n cp].toArray 27), (blk, Obj.cells (nl (hvL xv pre)).toArray 24), (b8, Obj.cells [Value.pointer (some ⟨fb, 0, none⟩)].toArray 77), (fb, Obj.cells (pfl p q g h 0).toArray 79), (b6, Obj.cells [Value.int .u64 0, .int .u64 0, .int .u64 0, .int .u64 0].toArray 24), (b5, Obj.cells (nl xv).toArray 24), (b3, Obj.cells (gl p q g h).toArray 26)]) rfl hn hpa ?hb (hBox.cell (off := 0) (.head _) rfl) (fun j hj => by rw [hz.out j hj]; exact hca j hj) ?hR ?hL ?hkeep ?hvars ?hbody ?hdone
 case hb =>
  intro b hb
  simp only [List.mem_cons, List.not_mem_nil, or_false] at hb
  simp only at lB
  rcases hb with rfl | rfl
  ·exact lB
  ·rcases lba with rfl | h
   ·exact lB
   ·omega
 case hR =>
  show Rep _ _ [_, (_, .cells (nl (hvL xv [])).toArray _), _, _, _, _, _] _
  rw [hvL_nil, ← xDf]
  exact hBox
 case hL =>
  intro pre x hx
  simp only [List.mem_cons, List.not_mem_nil, or_false] at hx
  rcases hx with rfl | rfl | rfl | rfl | rfl | rfl | rfl <;> rfl
 case hkeep =>
  intro L1 L2 pre pre' W2 W' hw hw' pt hpt
  refine World.cell?_of_block ?_
  have kA : W'.heap[Bs]? = W2.heap[Bs]? := (hw'.own (Bs, _) (List.mem_append_right _ (.head _))).2.trans (hw.own (Bs, _) (List.mem_append_right _ (.head _))).2.symm
  have kO : ∀ b, b < W.heap.size → W'.heap[b]? = W2.heap[b]? := fun b hb => (hw'.below.block b hb).trans (hw.below.block b hb).symm
  simp only [List.mem_cons, List.not_mem_nil, or_false] at hpt
  rcases hpt with e | e <;> rw [e]
  ·exact kA
  ·rcases lba with rfl | h
   ·exact kA
   ·exact kO _ h
 case hvars =>
  clear hBox hca lB hsz lba hpa hBelow
  intro k pre y W2 K hR hK
  replace hK := Held.mk hK
  simp only [List.set_cons_succ, List.set_cons_zero]
  gi_wp2_with (first | (refine' xKm hR rfl rfl inferInstance ?_; clear hR; intro blk w hR) | (refine' xFr hR rfl rfl rfl inferInstance rfl ?hs ?zone ?zvn ?hn ?_; (case hs => repeat (first | exact xBq.head | with_reducible assumption | apply xBq.tail)); (case zone => first | rfl | with_reducible assumption); (case zvn => first | rfl | simp); (case hn => first | rfl | simp); clear hR; intro w hR))
  exact hK.out _ _ hR
 case hbody =>
  clear hBox hca lB hsz lba hpa hBelow
  intro k pre y c W2 hR
  unfold slotsA
  simp only [List.set_cons_succ, List.set_cons_zero]
  obtain ⟨R0, hR0⟩ : ∃ r, hvL xv pre = r := ⟨_, rfl⟩
  have lR0 : R0 < q := by rw [← hR0]; exact hvL_lt h1 xv pre
  obtain ⟨Y, hY⟩ : ∃ r, y.2.1 = r := ⟨_, rfl⟩
  have lY : Y < q := by rw [← hY]; exact y.2.2
  obtain ⟨R1, hR1⟩ : ∃ r, mulN R0 xv q = r := ⟨_, rfl⟩
  have lR1 : R1 < q := by rw [← hR1, xCm]; exact Nat.mod_lt _ (by omega)
  obtain ⟨R2, hR2⟩ : ∃ r, (R1 + Y) % q = r := ⟨_, rfl⟩
  have eR2 : hvL xv (pre ++ [y]) = R2 := by rw [hvL_snoc, hR0, hR1, hY, hR2]
  rw [hR0, hY] at hR
  rw [eR2]
  have l8 : ∀ w, RK W2 W.heap.size W ((c, Obj.cells (nl Y).toArray 24) :: [(Bs, Obj.cells [Value.slice a n cp].toArray 27), (blk, Obj.cells (nl R0).toArray 24), (b8, Obj.cells [Value.pointer (some ⟨fb, 0, none⟩)].toArray 77), (fb, Obj.cells (pfl p q g h 0).toArray 79), (b6, Obj.cells [Value.int .u64 0, .int .u64 0, .int .u64 0, .int .u64 0].toArray 24), (b5, Obj.cells (nl xv).toArray 24), (b3, Obj.cells (gl p q g h).toArray 26)]) w → (loadVar 77 ⟨b8, 0, none⟩).run Tryz.prog w = .ok (.pointer (some ⟨fb, 0, none⟩)) w := fun w hC => hC.rep.loadCell (P := Tryz.prog) (ty := 77) (.tail _ (.tail _ (.tail _ (.head _)))) rfl
  have l9 : ∀ w, RK W2 W.heap.size W ((c, Obj.cells (nl Y).toArray 24) :: [(Bs, Obj.cells [Value.slice a n cp].toArray 27), (blk, Obj.cells (nl R0).toArray 24), (b8, Obj.cells [Value.pointer (some ⟨fb, 0, none⟩)].toArray 77), (fb, Obj.cells (pfl p q g h 0).toArray 79), (b6, Obj.cells [Value.int .u64 0, .int .u64 0, .int .u64 0, .int .u64 0].toArray 24), (b5, Obj.cells (nl xv).toArray 24), (b3, Obj.cells (gl p q g h).toArray 26)]) w → (loadVar 24 ⟨blk, 0, none⟩).run Tryz.prog w = .ok (num R0) w := fun w hC => hC.rep.loadAll (P := Tryz.prog) (ty := 24) (.tail _ (.tail _ (.head _))) rfl
  have l5 : ∀ w, RK W2 W.heap.size W ((c, Obj.cells (nl Y).toArray 24) :: [(Bs, Obj.cells [Value.slice a n cp].toArray 27), (blk, Obj.cells (nl R0).toArray 24), (b8, Obj.cells [Value.pointer (some ⟨fb, 0, none⟩)].toArray 77), (fb, Obj.cells (pfl p q g h 0).toArray 79), (b6, Obj.cells [Value.int .u64 0, .int .u64 0, .int .u64 0, .int .u64 0].toArray 24), (b5, Obj.cells (nl xv).toArray 24), (b3, Obj.cells (gl p q g h).toArray 26)]) w → (loadVar 24 ⟨b5, 0, none⟩).run Tryz.prog w = .ok (num xv) w := fun w hC => hC.rep.loadAll (P := Tryz.prog) (ty := 24) (.tail _ (.tail _ (.tail _ (.tail _ (.tail _ (.tail _ (.head _))))))) rfl
  have lc : ∀ w, RK W2 W.heap.size W ((c, Obj.cells (nl Y).toArray 24) :: [(Bs, Obj.cells [Value.slice a n cp].toArray 27), (blk, Obj.cells (nl R0).toArray 24), (b8, Obj.cells [Value.pointer (some ⟨fb, 0, none⟩)].toArray 77), (fb, Obj.cells (pfl p q g h 0).toArray 79), (b6, Obj.cells [Value.int .u64 0, .int .u64 0, .int .u64 0, .int .u64 0].toArray 24), (b5, Obj.cells (nl xv).toArray 24), (b3, Obj.cells (gl p q g h).toArray 26)]) w → (loadVar 24 ⟨c, 0, none⟩).run Tryz.prog w = .ok (num Y) w := fun w hC => hC.rep.loadAll (P := Tryz.prog) (ty := 24) (.head _) rfl
  have allC : ∀ x ∈ ((c, Obj.cells (nl Y).toArray 24) :: [(Bs, Obj.cells [Value.slice a n cp].toArray 27), (blk, Obj.cells (nl R0).toArray 24), (b8, Obj.cells [Value.pointer (some ⟨fb, 0, none⟩)].toArray 77), (fb, Obj.cells (pfl p q g h 0).toArray 79), (b6, Obj.cells [Value.int .u64 0, .int .u64 0, .int .u64 0, .int .u64 0].toArray 24), (b5, Obj.cells (nl xv).toArray 24), (b3, Obj.cells (gl p q g h).toArray 26)]), x.2.isCells = true := fun x hx => by
   simp only [List.mem_cons, List.not_mem_nil, or_false] at hx
   rcases hx with rfl | rfl | rfl | rfl | rfl | rfl | rfl | rfl <;> rfl
  have ct : ∀ w, RK W2 W.heap.size W ((c, Obj.cells (nl Y).toArray 24) :: [(Bs, Obj.cells [Value.slice a n cp].toArray 27), (blk, Obj.cells (nl R0).toArray 24), (b8, Obj.cells [Value.pointer (some ⟨fb, 0, none⟩)].toArray 77), (fb, Obj.cells (pfl p q g h 0).toArray 79), (b6, Obj.cells [Value.int .u64 0, .int .u64 0, .int .u64 0, .int .u64 0].toArray 24), (b5, Obj.cells (nl xv).toArray 24), (b3, Obj.cells (gl p q g h).toArray 26)]) w → Calls Tryz.prog 34 #[.pointer (some ⟨fb, 0, none⟩), num R0, num xv] w fun e w' => e = .returned (num R1) ∧ RK W2 W.heap.size W ((c, Obj.cells (nl Y).toArray 24) :: [(Bs, Obj.cells [Value.slice a n cp].toArray 27), (blk, Obj.cells (nl R0).toArray 24), (b8, Obj.cells [Value.pointer (some ⟨fb, 0, none⟩)].toArray 77), (fb, Obj.cells (pfl p q g h 0).toArray 79), (b6, Obj.cells [Value.int .u64 0, .int .u64 0, .int .u64 0, .int .u64 0].toArray 24), (b5, Obj.cells (nl xv).toArray 24), (b3, Obj.cells (gl p q g h).toArray 26)]) w' := fun w hC => RK.lift (R := fun e => e = .returned (num R1)) hC allC rfl (fun M hM => ftimes_ok h1 hq lR0 hx hR1 (List.mem_append_right M (.tail _ (.tail _ (.tail _ (.tail _ (.head _)))))) hM)
  have cq : ∀ w, RK W2 W.heap.size W ((c, Obj.cells (nl Y).toArray 24) :: [(Bs, Obj.cells [Value.slice a n cp].toArray 27), (blk, Obj.cells (nl R0).toArray 24), (b8, Obj.cells [Value.pointer (some ⟨fb, 0, none⟩)].toArray 77), (fb, Obj.cells (pfl p q g h 0).toArray 79), (b6, Obj.cells [Value.int .u64 0, .int .u64 0, .int .u64 0, .int .u64 0].toArray 24), (b5, Obj.cells (nl xv).toArray 24), (b3, Obj.cells (gl p q g h).toArray 26)]) w → Calls Tryz.prog 33 #[.pointer (some ⟨fb, 0, none⟩), num R1, num Y] w fun e w' => e = .returned (num R2) ∧ RK W2 W.heap.size W ((c, Obj.cells (nl Y).toArray 24) :: [(Bs, Obj.cells [Value.slice a n cp].toArray 27), (blk, Obj.cells (nl R0).toArray 24), (b8, Obj.cells [Value.pointer (some ⟨fb, 0, none⟩)].toArray 77), (fb, Obj.cells (pfl p q g h 0).toArray 79), (b6, Obj.cells [Value.int .u64 0, .int .u64 0, .int .u64 0, .int .u64 0].toArray 24), (b5, Obj.cells (nl xv).toArray 24), (b3, Obj.cells (gl p q g h).toArray 26)]) w' := fun w hC => RK.lift (R := fun e => e = .returned (num R2)) hC allC rfl (fun M hM => fplus_ok h1 hq lR1 lY hR2 (List.mem_append_right M (.tail _ (.tail _ (.tail _ (.tail _ (.head _)))))) hM)
  clear allC hR0 lR0 lR1 lY hR1 hR2 eR2 hY
  refine wpIn_block ?_
  refine xIm (RK W2 W.heap.size W ((c, Obj.cells (nl Y).toArray 24) :: [(Bs, Obj.cells [Value.slice a n cp].toArray 27), (blk, Obj.cells (nl R0).toArray 24), (b8, Obj.cells [Value.pointer (some ⟨fb, 0, none⟩)].toArray 77), (fb, Obj.cells (pfl p q g h 0).toArray 79), (b6, Obj.cells [Value.int .u64 0, .int .u64 0, .int .u64 0, .int .u64 0].toArray 24), (b5, Obj.cells (nl xv).toArray 24), (b3, Obj.cells (gl p q g h).toArray 26)])) hR.drew [0, 0, 0, 0, 0, 0, 0, 2] (fun ⟨_, _, hh⟩ => hh) rfl xBd (by kernel_rfl) rfl rfl (fun K hK => ?_)
  clear hR
  repeat ((first | (refine' hd_loadC rfl rfl rfl l8 ?ha ?_) | (refine' hd_loadC rfl rfl rfl l9 ?ha ?_) | (refine' hd_loadC rfl rfl rfl l5 ?ha ?_) | (refine' hd_loadC rfl rfl rfl lc ?ha ?_) | (refine' hd_callG rfl rfl rfl (fun w => xAi Tryz.func34 (by kernel_rfl) (by kernel_rfl) _ w) ct ?ha ?_) | (refine' hd_callG rfl rfl rfl (fun w => xAi Tryz.func33 (by kernel_rfl) (by kernel_rfl) _ w) cq ?ha ?_) | (refine xAp ?_)); try (case ha => simp only [kP, kQ, kA, kB]; try rfl))
  refine xAo (hK _ _ ?_)
  clear hK K
  refine xAr (fun Q hQ => ?_)
  refine' tl_storeC (RK W2 W.heap.size W ((c, Obj.cells (nl Y).toArray 24) :: [(Bs, Obj.cells [Value.slice a n cp].toArray 27), (blk, Obj.cells (nl R2).toArray 24), (b8, Obj.cells [Value.pointer (some ⟨fb, 0, none⟩)].toArray 77), (fb, Obj.cells (pfl p q g h 0).toArray 79), (b6, Obj.cells [Value.int .u64 0, .int .u64 0, .int .u64 0, .int .u64 0].toArray 24), (b5, Obj.cells (nl xv).toArray 24), (b3, Obj.cells (gl p q g h).toArray 26)])) rfl rfl rfl rfl (fun w hC => ?hq) ?ha ?_
  case hq => exact hC.storeRow (P := Tryz.prog) (ty := 24) (off := 0) (vs := nl R2) (l' := nl R2) rfl rfl (.tail (.tail .head)) (Nat.le_refl 4) rfl
  case ha => simp only [Act.put, kA, kB, List.setIfInBounds_toArray]; try rfl
  refine xAs (fun w hC => hQ _ _ ?_)
  clear hQ Q
  exact ⟨hC.weaken (List.sublist_append_right [_] _), trivial⟩
 case hdone =>
  clear hBox hca lB hsz lba hpa hBelow
  intro D W2 hR
  go_wp2_with (first | (refine' aNq hR ?_) | (refine' aRq hR ?_; clear hR; intro w hR))
  refine ⟨by simp, .inl ⟨_, _, rfl, run_takeDeferred (hR.own _ (List.Mem.head _)).2, ?_⟩⟩
  have hR3 := hR.putHead (.deferred none)
  (refine' ⟨_, xAh Tryz.results8 rfl (hR3.loadAll (P := Tryz.prog) (ty := 24) ?hm ?hn), ?_, hR3.below⟩; (case hm => repeat (first | exact .head _ | with_reducible assumption | apply mC)); (case hn => rfl))
  rfl
end
end
section
attribute [local irreducible] Calls Instr.build Instr.buildSlice Instr.makeSlice
end
end Go.Proofs.YtaaahfjpnggkbaaGreatDoor
