/- Signatures (and proofs) as values: how two are compared. -/
import Derived.Test.YtklidiambinhkaaZWide
import Derived.Laws.StructEq
import Derived.Test.YtklidiambinhkaaZGA
set_option linter.unusedVariables false
set_option linter.unusedSimpArgs false
namespace Go.Proofs.Ytklidiambinhkaa
open Go.RowKit
theorem equalIn_num_at (d : Nat) (a b : Nat) (w : World) : (Op.equalIn (d + 2) 24 (.agg (nl a).toArray) (.agg (nl b).toArray)).run Try.prog w = .ok (eqN a b) w := by
  have hp : ∀ (x i : Nat), i < 4 → ∀ v, (nl x)[i]? = some v → (part 22 (nl x).toArray i).run Try.prog w = .ok v w := fun x i hi v hv => by
    have hagg : (isAgg 22).run Try.prog w = .ok false w := by
      unfold isAgg
      rw [Sem.run_bind, run_underlying Try.underlying22 w]
      rfl
    unfold part
    rw [Sem.run_bind, hagg]
    simp only [Result.andThen_ok, Bool.false_eq_true, if_false, List.getElem?_toArray, hv]
    rfl
  have ho : ∃ i, Try.prog.info? 22 = some i := by
    cases h : Try.prog.info? 22 with
    | some i => exact ⟨i, rfl⟩
    | none => exact absurd (show (Try.prog.info? 22).isSome = true by kernel_rfl) (by rw [h]; decide)
  obtain ⟨i, hi⟩ := ho
  have hu : Try.prog.underlying 24 = some (.array 4 22) := Try.underlying24
  rw [show (d + 2 : Nat) = (d + 1) + 1 from rfl, run_equalIn_array w (d + 1) (nl a).toArray (nl b).toArray hu hi, cells_u64]
  have he : ∀ x y : Int, (Op.equalIn (d + 1) 22 (.int .u64 x) (.int .u64 y)).run Try.prog w = .ok (x == y) w := fun x y => run_equalIn_int w d 22 .u64 .u64 x y Try.underlying22
  simp only [List.range, List.range.loop, Op.eqItems, Nat.zero_mul, Nat.one_mul, Nat.mul_one, Sem.run_bind, hp a 0 (by omega) _ rfl, hp b 0 (by omega) _ rfl, hp a 1 (by omega) _ rfl, hp b 1 (by omega) _ rfl, hp a 2 (by omega) _ rfl, hp b 2 (by omega) _ rfl,
    hp a 3 (by omega) _ rfl, hp b 3 (by omega) _ rfl, he, Result.andThen_ok, Sem.run_ite, Sem.run_pure]
  by_cases h : a % B = b % B
  · have e : nl a = nl b := by rw [← nl_mod a, h, nl_mod]
    unfold nl at e
    simp only [List.cons.injEq, Value.int.injEq, true_and, and_true] at e
    obtain ⟨h0, h1, h2, h3⟩ := e
    simp [eqN_def, h, h0, h1, h2, h3]
  · have e : ¬ (wd a 0 = wd b 0 ∧ wd a 1 = wd b 1 ∧ wd a 2 = wd b 2 ∧ wd a 3 = wd b 3) := fun ⟨h0, h1, h2, h3⟩ => h (nl_inj (by unfold nl; rw [h0, h1, h2, h3]))
    have ee : eqN a b = false := by simp [eqN_def, h]
    rw [ee]
    by_cases h0 : wd a 0 = wd b 0 <;> by_cases h1 : wd a 1 = wd b 1 <;> by_cases h2 : wd a 2 = wd b 2 <;> by_cases h3 : wd a 3 = wd b 3 <;> simp_all
theorem part_num0 (a b : Nat) (w : World) : (part 24 (nl2 a b).toArray 0).run Try.prog w = .ok (.agg (nl a).toArray) w := by
  unfold nl2 nl
  kernel_rfl
theorem part_num4 (a b : Nat) (w : World) : (part 24 (nl2 a b).toArray 4).run Try.prog w = .ok (.agg (nl b).toArray) w := by
  unfold nl2 nl
  kernel_rfl
noncomputable def eqS : Nat → Nat → Nat → Nat → Bool := opq fun a b c d => eqN a c && eqN b d
theorem eqS_def (a b c d : Nat) : eqS a b c d = (eqN a c && eqN b d) := by unfold eqS; rw [xCc]
theorem eqS_self (a b : Nat) : eqS a b a b = true := by rw [eqS_def, eqN_self, eqN_self]; rfl
theorem eqFields_two (a b c d : Nat) (fs : List Field) (h : fs.map (fun f => (f.type, f.offset, f.name == "_")) = [(24, 0, false), (24, 4, false)]) (w : World) : (Op.eqFields 9999 (nl2 a b).toArray (nl2 c d).toArray fs).run Try.prog w = .ok (eqS a b c d) w := by
  have hl : fs.length = 2 := by have := congrArg List.length h; simpa using this
  obtain ⟨f, g, rfl⟩ : ∃ f g, fs = [f, g] := by
    match fs, hl with
    | [f, g], _ => exact ⟨f, g, rfl⟩
  · simp only [List.map_cons, List.map_nil, List.cons.injEq, Prod.mk.injEq, beq_eq_false_iff_ne, and_true] at h
    obtain ⟨⟨t1, o1, n1⟩, t2, o2, n2⟩ := h
    simp only [Op.eqFields, ne_eq, n1, n2, t1, t2, o1, o2, not_false_eq_true, if_true, Sem.run_bind, part_num0, part_num4, Result.andThen_ok, equalIn_num_at 9997 a c w, equalIn_num_at 9997 b d w, Sem.run_ite, Sem.run_pure, eqS_def]
    cases eqN a c <;> cases eqN b d <;> rfl
@[go_sem high] theorem equalIn_sig (a b c d : Nat) (w : World) : (Op.equalIn 10000 30 (.agg (nl2 a b).toArray) (.agg (nl2 c d).toArray)).run Try.prog w = .ok (eqS a b c d) w := by
  rw [show (10000 : Nat) = 9999 + 1 from rfl, run_equalIn_struct w 9999 30 _ _ (by kernel_rfl) (by kernel_rfl)]
  exact eqFields_two a b c d _ (by kernel_rfl) w
@[go_sem high] theorem equalIn_proof (a b c d : Nat) (w : World) : (Op.equalIn 10000 47 (.agg (nl2 a b).toArray) (.agg (nl2 c d).toArray)).run Try.prog w = .ok (eqS a b c d) w := by
  rw [show (10000 : Nat) = 9999 + 1 from rfl, run_equalIn_struct w 9999 47 _ _ (by kernel_rfl) (by kernel_rfl)]
  exact eqFields_two a b c d _ (by kernel_rfl) w
end Go.Proofs.Ytklidiambinhkaa
namespace Go.Proofs.Ytklidiambinhkaa
open Go.RowKit
theorem nl_one : [Value.int .u64 1, .int .u64 0, .int .u64 0, .int .u64 0] = nl 1 := by unfold nl; simp [wd_def]
@[go_sem] theorem equalIn_one (a : Nat) (w : World) : (Op.equalIn 10000 24 (.agg (nl a).toArray) (.agg #[.int .u64 1, .int .u64 0, .int .u64 0, .int .u64 0])).run Try.prog w = .ok (eqN a 1) w := by
  rw [show (Value.agg #[.int .u64 1, .int .u64 0, .int .u64 0, .int .u64 0]) = .agg (nl 1).toArray by rw [← nl_one]]; exact equalIn_num a 1 w
noncomputable def chkR (p q g key c s : Nat) : Nat := mulN (powN g s p) (powN key (subN 0 c q) p) p
def chkOk (p q g key : Nat) (H : Nat → Nat) (c s : Nat) : Prop := inG p q key ∧ key ≠ 1 ∧ okX q c s ∧ mayG p g ∧ chalN key (chkR p q g key c s) H q = c
section
variable {P : Program} {ops : Array Oper} {B0 : Nat} {w0 : World} {Kp : List (Nat × Obj)} {Q : Exit → Act → World → Prop} {L L' : List (Nat × Obj)}
theorem f_callW {n : Nat} {listed : Array Bool} {a : Act} {i : Nat} {r : List Nat} {oi : Oper} {di : Tmp} (R : Value → List (Nat × Obj) → Prop) (hoi : ops[i]? = some oi) (hdi : oi.dst = some di) (hw' : Region.wanted oi (yielded ops a.tmps) = true) {f : FuncId} {xs : List Operand} {us : Array TypeId} (hop : oi.op = .call { callee := .value (.func f), args := xs.toArray, argTypes := us }) {vs : List Value} (hx' : evL a xs = some vs)
    (hent : ∀ w, (callFunc f vs.toArray).run P w = .ok (.enter f vs.toArray) w) (hq : ∀ w, Rep B0 w0 L w → Calls P f vs.toArray w fun e w' => ∃ v, e = .returned v ∧ outW B0 w0 R v w')
    (h : ∀ v M, R v M → (∀ p, p ∈ Kp → p ∈ M) ∧ wpAnyF P ops B0 w0 Kp Q n (listed.setIfInBounds i true) (a.put (some di) v) M) (hr : stepsF P ops B0 w0 Kp Q n listed a L r) : stepsF P ops B0 w0 Kp Q n listed a L (i :: r) := by
  rw [← hdi] at h
  refine ⟨⟨oi, hoi, R, .inl ⟨hw', fun w hw => ?_⟩, h⟩, hr⟩
  have e : (execOp a.eval oi).run P w = .ok (.enter f vs.toArray) w := by
    have hx := xCo hx'
    unfold execOp
    simp only [hop, resolve, Deferred.ofValue, Act.eval, Sem.run_bind, Sem.run_pure, Result.andThen_ok, hx]
    have := hent w
    simpa [invoke] using this
  rw [e]
  exact hq w hw
theorem yields_callVW {o : Oper} {a : Act} (hw' : Region.wanted o (yielded ops a.tmps) = true) {f : FuncId} {x : Operand} {xs : List Operand} {us : Array TypeId} (hop : o.op = .call { callee := .value x, args := xs.toArray, argTypes := us }) {caps : List Value} (hf : ev a x = some (.func (.func f) #[] caps.toArray)) {vs : List Value} {v : Value} (hx' : evL a xs = some vs)
    (hent : ∀ w, (callFunc f (vs ++ caps).toArray).run P w = .ok (.enter f (vs ++ caps).toArray) w) (hq : ∀ w, Rep B0 w0 L w → Calls P f (vs ++ caps).toArray w fun e w' => e = .returned v ∧ Rep B0 w0 L' w') : xBr P ops o v a (Rep B0 w0 L) (Rep B0 w0 L') :=
  .inl ⟨hw', fun w hR => by
    have e : (execOp a.eval o).run P w = .ok (.enter f (vs ++ caps).toArray) w := by
      have hx := xCo hx'
      have hf := xBs hf
      unfold execOp
      simp only [hop, resolve, Deferred.ofValue, hf, Sem.run_bind, Sem.run_pure, Result.andThen_ok, hx]
      have := hent w
      simpa [invoke] using this
    rw [e]
    exact (hq w hR).mono fun e' w' ⟨he, hb⟩ => ⟨he, hb⟩⟩
end
section
variable {p q g h key c s : Nat} {H : Nat → Nat}
attribute [local irreducible] Calls Instr.build Instr.buildSlice
set_option maxRecDepth 100000 in
set_option maxHeartbeats 8000000 in
theorem chk_early (hp : p < B) (hq : q < B) (hk : key < B) (hc : c < B) (hs : s < B) (hno : ¬ (inG p q key ∧ key ≠ 1 ∧ okX q c s)) (w : World) : Calls Try.prog 14 #[grp p q g h, num key, .agg (u8s 32 H).toArray, sigV c s] w fun e' w' =>
    e' = .returned (.bool false) ∧ Below w.heap.size w w' := by
  classical
  have tc : ((nl2 c s).drop 0).take 4 = nl c := rfl
  have ts : ((nl2 c s).drop 4).take 4 = nl s := rfl
  have cx := fun (b : Bool) (hb : decide (okX q c s) = b) (b0 : Nat) (L : List (Nat × Obj)) (w' : World) (hm : (b0, Obj.cells (nl2 c s).toArray 24) ∈ L) (hR : Rep w.heap.size w L w') => exps_lit (p := p) (g := g) (h := h) hq hc hs hb hm hR
  have hR := Rep.init w
  by_cases ig : inG p q key
  · have i1 := gin_lit (g := g) (h := h) (s := true) hp hq hk ⟨fun _ => ig, fun _ => rfl⟩
    by_cases k1 : key = 1
    · have ek : eqN key 1 = true := eqN_yes k1
      clear hno ig k1 cx
      go_enter Try.func14, Try.ntmps14
      go_wp2_with (first | go_skip | (refine' xAf hR rfl rfl rfl ?_; clear hR; intro blk w hR) | (refine' xAb hR rfl rfl inferInstance ?_; clear hR; intro blk w hR) | (refine' xAc hR rfl rfl rfl inferInstance ?hm ?hn ?_; (case hm => first | with_reducible assumption | repeat (first | exact .head _ | with_reducible assumption | apply mC)); (case hn => first | rfl | simp)) | (refine' xAd hR rfl rfl rfl inferInstance ?hm ?hv ?hn ?_; (case hm => first | with_reducible assumption | repeat (first | exact .head _ | with_reducible assumption | apply mC)); (case hv => first | with_reducible assumption | (simp only [kC, kD, kE, kF]; try rfl)); (case hn => first | rfl | simp)) | (refine' xAa hR rfl rfl rfl inferInstance rfl ?hs ?zone ?zvn ?hn ?_; (case hs => repeat (first | exact xAh.head | apply xAh.tail)); (case zone => first | rfl | with_reducible assumption); (case zvn => first | rfl | simp); (case hn => first | rfl | simp); clear hR; intro w hR) | (refine' xAy hR rfl rfl rfl inferInstance ?hm ?hn ?_; (case hm => first | with_reducible assumption | repeat (first | exact .head _ | with_reducible assumption | apply mC)); (case hn => first | rfl | simp)) | (refine' xBb hR rfl rfl rfl inferInstance ?hm ?hv ?hn ?_; (case hm => first | with_reducible assumption | repeat (first | exact .head _ | with_reducible assumption | apply mC)); (case hv => first | with_reducible assumption | (simp only [kC, kD, kE, kF]; try rfl)); (case hn => first | rfl | simp)) | (go_at_call 16; refine (i1 _).mono ?_; rintro e w ⟨rfl, hb⟩; replace hR := hR.call hb; clear hb))
      go_ret
      exact ⟨rfl, hR.below⟩
    · have ek : eqN key 1 = false := xCy hk (lt_B (by decide)) k1
      replace cx := cx false (decide_eq_false fun h => hno ⟨ig, k1, h⟩)
      clear hno ig k1
      go_enter Try.func14, Try.ntmps14
      go_wp2_with (first | go_skip | (refine' xAf hR rfl rfl rfl ?_; clear hR; intro blk w hR) | (refine' xAb hR rfl rfl inferInstance ?_; clear hR; intro blk w hR) | (refine' xAc hR rfl rfl rfl inferInstance ?hm ?hn ?_; (case hm => first | with_reducible assumption | repeat (first | exact .head _ | with_reducible assumption | apply mC)); (case hn => first | rfl | simp)) | (refine' xAd hR rfl rfl rfl inferInstance ?hm ?hv ?hn ?_; (case hm => first | with_reducible assumption | repeat (first | exact .head _ | with_reducible assumption | apply mC)); (case hv => first | with_reducible assumption | (simp only [kC, kD, kE, kF]; try rfl)); (case hn => first | rfl | simp)) | (refine' xAa hR rfl rfl rfl inferInstance rfl ?hs ?zone ?zvn ?hn ?_; (case hs => repeat (first | exact xAh.head | apply xAh.tail)); (case zone => first | rfl | with_reducible assumption); (case zvn => first | rfl | simp); (case hn => first | rfl | simp); clear hR; intro w hR) | (refine' xAy hR rfl rfl rfl inferInstance ?hm ?hn ?_; (case hm => first | with_reducible assumption | repeat (first | exact .head _ | with_reducible assumption | apply mC)); (case hn => first | rfl | simp)) | (refine' xBb hR rfl rfl rfl inferInstance ?hm ?hv ?hn ?_; (case hm => first | with_reducible assumption | repeat (first | exact .head _ | with_reducible assumption | apply mC)); (case hv => first | with_reducible assumption | (simp only [kC, kD, kE, kF]; try rfl)); (case hn => first | rfl | simp)) | (go_at_call 16; refine (i1 _).mono ?_; rintro e w ⟨rfl, hb⟩; replace hR := hR.call hb; clear hb) | (refine' xCf hR rfl rfl rfl rfl (xCg _ _) ?_; clear hR; intro bt w hR) | (go_at_call 28; refine (cx _ _ _ (.head _) hR).mono ?_; clear hR; rintro e w ⟨rfl, hR⟩))
      go_ret
      exact ⟨rfl, hR.below⟩
  · have i1 := gin_lit (g := g) (h := h) (s := false) hp hq hk ⟨fun h => (by cases h), fun h => absurd h ig⟩
    clear hno cx ig
    go_enter Try.func14, Try.ntmps14
    go_wp2_with (first | go_skip | (refine' xAf hR rfl rfl rfl ?_; clear hR; intro blk w hR) | (refine' xAb hR rfl rfl inferInstance ?_; clear hR; intro blk w hR) | (refine' xAc hR rfl rfl rfl inferInstance ?hm ?hn ?_; (case hm => first | with_reducible assumption | repeat (first | exact .head _ | with_reducible assumption | apply mC)); (case hn => first | rfl | simp)) | (refine' xAd hR rfl rfl rfl inferInstance ?hm ?hv ?hn ?_; (case hm => first | with_reducible assumption | repeat (first | exact .head _ | with_reducible assumption | apply mC)); (case hv => first | with_reducible assumption | (simp only [kC, kD, kE, kF]; try rfl)); (case hn => first | rfl | simp)) | (refine' xAa hR rfl rfl rfl inferInstance rfl ?hs ?zone ?zvn ?hn ?_; (case hs => repeat (first | exact xAh.head | apply xAh.tail)); (case zone => first | rfl | with_reducible assumption); (case zvn => first | rfl | simp); (case hn => first | rfl | simp); clear hR; intro w hR) | (refine' xAy hR rfl rfl rfl inferInstance ?hm ?hn ?_; (case hm => first | with_reducible assumption | repeat (first | exact .head _ | with_reducible assumption | apply mC)); (case hn => first | rfl | simp)) | (refine' xBb hR rfl rfl rfl inferInstance ?hm ?hv ?hn ?_; (case hm => first | with_reducible assumption | repeat (first | exact .head _ | with_reducible assumption | apply mC)); (case hv => first | with_reducible assumption | (simp only [kC, kD, kE, kF]; try rfl)); (case hn => first | rfl | simp)) | (go_at_call 16; refine (i1 _).mono ?_; rintro e w ⟨rfl, hb⟩; replace hR := hR.call hb; clear hb))
    go_ret
    exact ⟨rfl, hR.below⟩
set_option maxRecDepth 100000 in
set_option maxHeartbeats 16000000 in
theorem chk_late {res : Bool} (hp : p < B) (hq : q < B) (hg : g < B) (hk : key < B) (hc : c < B) (hs : s < B) (hH : ∀ i, H i < 256) (h1 : inG p q key) (h2 : key ≠ 1) (h3 : okX q c s) (hres : res = true ↔ mayG p g ∧ chalN key (chkR p q g key c s) H q = c) (w : World) : Calls Try.prog 14 #[grp p q g h, num key, .agg (u8s 32 H).toArray, sigV c s] w fun e' w' =>
    e' = .returned (.bool res) ∧ Below w.heap.size w w' := by
  classical
  have tg := gl_g p q g h
  have tc : ((nl2 c s).drop 0).take 4 = nl c := rfl
  have ts : ((nl2 c s).drop 4).take 4 = nl s := rfl
  have i1 := gin_lit (g := g) (h := h) (s := true) hp hq hk ⟨fun _ => h1, fun _ => rfl⟩
  have ek : eqN key 1 = false := xCy hk (lt_B (by decide)) h2
  have cx := fun (b0 : Nat) (L : List (Nat × Obj)) (w' : World) (hm : (b0, Obj.cells (nl2 c s).toArray 24) ∈ L) (hR : Rep w.heap.size w L w') => exps_lit (p := p) (g := g) (h := h) (s := true) hq hc hs (decide_eq_true h3) hm hR
  obtain ⟨n0, h0⟩ : ∃ n, n = 0 := ⟨_, rfl⟩
  have L0 : n0 < B := lt_B (by omega)
  obtain ⟨bk', hbk⟩ : ∃ x, subN 0 c q = x := ⟨_, rfl⟩
  have lb : bk' < q := by rw [← hbk, subN_def]; exact Nat.mod_lt _ (by have := h3.1; omega)
  have sb := ssub_lit (p := p) (g := g) (h := h) (e := 0) (r := bk') L0 hc hq (by rw [h0, if_pos ⟨h3.1, by have := h3.1; omega, h3.2.1⟩, hbk]) (by rw [h0]; exact if_pos ⟨h3.1, by have := h3.1; omega, h3.2.1⟩)
  rw [show num n0 = Value.agg #[.int .u64 0, .int .u64 0, .int .u64 0, .int .u64 0] by rw [h0]; exact xCw.symm] at sb
  have lB : bk' < B := by omega
  unfold chkR at hres
  rw [hbk] at hres
  obtain ⟨W, hW⟩ : ∃ x, x = w := ⟨_, rfl⟩
  subst hW
  have hR := Rep.init W
  by_cases hm : mayG p g
  · obtain ⟨r, hr⟩ : ∃ r, mulN (powN g s p) (powN key bk' p) p = r := ⟨_, rfl⟩
    have pr := fun (b1 b2 : Nat) (L : List (Nat × Obj)) (w' : World) (m1 : (b1, Obj.cells (nl2 g key).toArray 24) ∈ L) (m2 : (b2, Obj.cells (nl2 s bk').toArray 24) ∈ L) (hR : Rep W.heap.size W L w') => prod2_lit (q := q) (g := g) (h := h) (r := r) (e := 0) hp hq h1.1.1 hg hk hs lB (by rw [if_pos ⟨hm, h1.1⟩, hr]) (if_pos ⟨hm, h1.1⟩) m1 m2 hR
    rw [hr] at hres
    obtain ⟨x, hx⟩ : ∃ x, chalN key r H q = x := ⟨_, rfl⟩
    have lx : x < q := by rw [← hx]; exact chalN_lt (by have := h3.1; omega) _ _ _
    rw [hx] at hres
    have cl := fun (b3 b4 b5 : Nat) (M : List (Nat × Obj)) (m3 : (b3, Obj.cells (gl p q g h).toArray 26) ∈ M) (m4 : (b4, Obj.cells (nl key).toArray 24) ∈ M) (m5 : (b5, Obj.cells (u8s 32 H).toArray 28) ∈ M) (w' : World) (hR : Rep W.heap.size W M w') => sig_closure (r := r) hq hx hH m3 m4 m5 hR
    have bs := fun w => build_sig x s w
    have es : eqS c s x s = res := by
      rw [eqS_def, eqN_self, Bool.and_true]
      by_cases he : x = c
      · rw [eqN_yes he.symm]; exact (hres.2 ⟨hm, he⟩).symm
      · rw [xCy hc (by omega) (fun h => he h.symm)]
        cases res
        · rfl
        · exact absurd (hres.1 rfl).2 he
    clear hres hx hr lx hm h1 h2 h3 h0 L0 hbk lb lB
    replace hH := Held.mk hH
    replace cl := Held.mk cl
    have hone := u8s_one 32 H
    go_enter Try.func14, Try.ntmps14
    go_wp2_with (first | go_skip | (refine' xAf hR rfl rfl rfl ?_; clear hR; intro blk w hR) | (refine' xAb hR rfl rfl inferInstance ?_; clear hR; intro blk w hR) | (refine' xAc hR rfl rfl rfl inferInstance ?hm ?hn ?_; (case hm => first | with_reducible assumption | repeat (first | exact .head _ | with_reducible assumption | apply mC)); (case hn => first | rfl | simp)) | (refine' xAd hR rfl rfl rfl inferInstance ?hm ?hv ?hn ?_; (case hm => first | with_reducible assumption | repeat (first | exact .head _ | with_reducible assumption | apply mC)); (case hv => first | with_reducible assumption | (simp only [kC, kD, kE, kF]; try rfl)); (case hn => first | rfl | simp)) | (refine' xAa hR rfl rfl rfl inferInstance rfl ?hs ?zone ?zvn ?hn ?_; (case hs => repeat (first | exact xAh.head | apply xAh.tail)); (case zone => first | rfl | with_reducible assumption); (case zvn => first | rfl | simp); (case hn => first | rfl | simp); clear hR; intro w hR) | (refine' xAy hR rfl rfl rfl inferInstance ?hm ?hn ?_; (case hm => first | with_reducible assumption | repeat (first | exact .head _ | with_reducible assumption | apply mC)); (case hn => first | rfl | simp)) | (refine' xBb hR rfl rfl rfl inferInstance ?hm ?hv ?hn ?_; (case hm => first | with_reducible assumption | repeat (first | exact .head _ | with_reducible assumption | apply mC)); (case hv => first | with_reducible assumption | (simp only [kC, kD, kE, kF]; try rfl)); (case hn => first | rfl | simp)) | (go_at_call 16; refine (i1 _).mono ?_; rintro e w ⟨rfl, hb⟩; replace hR := hR.call hb; clear hb) | (refine' xCf hR rfl rfl rfl rfl (xCg _ _) ?_; clear hR; intro bt w hR) | (go_at_call 28; refine (cx _ _ _ (.head _) hR).mono ?_; clear hR; rintro e w ⟨rfl, hR⟩) | (go_at_call 20; refine (sb _).mono ?_; rintro e w ⟨rfl, hb⟩; replace hR := hR.call hb; clear hb) | (go_at_call 31; refine (pr _ _ _ _ (by repeat (first | exact .head _ | apply mC)) (by repeat (first | exact .head _ | apply mC)) hR).mono ?_; rintro e w ⟨rfl, hb⟩; replace hR := hR.call hb; clear hb))
    rename_i bg u1 bk u2 bh u3 bz u4 u5 bx u6 u7 u8 bb u9 u10 by1 u11 u12 u13 u14 K0 kz
    obtain ⟨br, hbr⟩ : ∃ x, x = blk := ⟨_, rfl⟩
    subst hbr
    refine wp_region_F hR 16 xCu rfl ?_
    clear hR
    refine fHeads [(bg, Obj.cells (gl p q g h).toArray 26), (bk, Obj.cells (nl key).toArray 24), (bh, Obj.cells (u8s 32 H).toArray 28), (bz, Obj.cells (nl2 c s).toArray 30), (br, Obj.cells (nl r).toArray 24)] [1, 1, 1, 1, 1, 1, 1, 2, 1, 2, 1, 1, 2, 2, 2, 2] 6 rfl (by repeat (first | exact xCd | refine xBu (by repeat (first | exact .head _ | with_reducible assumption | apply mC)) ?_)) (by repeat (first | exact xCd | refine xBu (by repeat (first | exact .head _ | with_reducible assumption | apply mC)) ?_)) rfl (by decide +kernel) (fun K hK => ?_)
    repeat ((first | (refine' hd_keepAll rfl rfl rfl inferInstance ?hm ?hn ?ha ?_; (case hm => first | with_reducible assumption | repeat (first | exact .head _ | apply mC)); (case hn => first | rfl | simp)) | (refine xBo ?_) | (refine' xAv (by decide) rfl (.inl rfl) rfl ?ha ?_) | (refine' xAv (by decide) rfl (.inr rfl) rfl ?ha ?_) | (refine' xAu rfl rfl rfl inferInstance ?hm ?hn ?ha ?_; (case hm => first | with_reducible assumption | repeat (first | exact .head _ | with_reducible assumption | apply mC)); (case hn => first | rfl | simp)) | (refine' xAp rfl rfl rfl inferInstance ?hm ?hv ?hn ?ha ?_; (case hm => first | with_reducible assumption | repeat (first | exact .head _ | with_reducible assumption | apply mC)); (case hv => first | with_reducible assumption | (simp only [kC, kD, kE, kF]; try rfl)); (case hn => first | rfl | simp)) | (refine' xAl rfl rfl rfl inferInstance ?hm ?hv ?ha ?_; (case hm => first | with_reducible assumption | repeat (first | exact .head _ | with_reducible assumption | apply mC)); (case hv => first | rfl | with_reducible assumption)) | (refine' xAq rfl rfl rfl inferInstance ?hm ?hv ?hn ?ha ?_; (case hm => first | with_reducible assumption | repeat (first | exact .head _ | with_reducible assumption | apply mC)); (case hv => first | with_reducible assumption | (simp only [kC, kD, kE, kF]; try rfl)); (case hn => first | rfl | simp)) | (refine' xAm rfl rfl rfl inferInstance ?hm ?hv ?ha ?_; (case hm => first | with_reducible assumption | repeat (first | exact .head _ | with_reducible assumption | apply mC)); (case hv => first | rfl | with_reducible assumption)) | ((first | refine' xAi (by decide) rfl rfl rfl rfl (fun w => ?hq) ?ha ?_ | refine' xBe (by decide) rfl rfl rfl rfl (fun w => ?hq) ?ha ?_ | refine' xAs (by decide) rfl rfl rfl (fun w => ?hq) ?ha ?_ | refine' xAj (by decide) rfl rfl rfl (fun w => ?hq) ?ha ?_ | refine' xAt (by decide) rfl rfl rfl (fun w => ?hq) ?ha ?_ | refine' xBh (by decide) rfl rfl rfl rfl (fun w => ?hq) ?ha ?_ | refine' xBg (by decide) rfl rfl rfl rfl rfl rfl (fun w => ?hq) ?ha ?_ | refine' xBd (by decide) rfl rfl (fun w => ?hq) ?ha ?_ | refine' xAr (by decide) rfl rfl rfl (fun w => ?hq) ?ha ?_ | refine' xBf (by decide) rfl rfl rfl (fun w => ?hq) ?ha ?_); (case hq => go_simp; try rfl)) | (refine' xAk (by decide) rfl rfl rfl ?ha ?_) | (refine' xBp (by decide) rfl rfl rfl rfl ?ha ?_) | (refine' xBn (by decide) rfl ?ha ?_)); try (case ha => simp only [kP, kQ, kA, kB]; try rfl))
    refine xBt (hK _ _ ?_)
    clear hK K
    refine f_at [7] (by decide +kernel) rfl ?_
    refine f_is 7 ?_
    refine f_callW (Signs p q g h key H _) rfl rfl rfl rfl rfl (xBm Try.func29 (by kernel_rfl) (by kernel_rfl) _) (fun w hw => signs_made (p := p) (q := q) (g := g) (h := h) (key := key) (H := H) hw) (fun v M hM => ?_) ?_
    case refine_2 => exact f_nil
    obtain ⟨b3, b4, b5, rfl, rfl⟩ := hM
    refine ⟨(by repeat (first | exact xCd | refine xBu (by repeat (first | exact .head _ | with_reducible assumption | apply mC)) ?_)), ?_⟩
    try simp only [Act.put, kA, kB, List.setIfInBounds_toArray]
    refine f_at [9] (by decide +kernel) rfl ?_
    refine f_is 9 ?_
    refine f_y rfl rfl (yields_callVW rfl rfl rfl rfl (xBm Try.func46 (by kernel_rfl) (by kernel_rfl) _) (fun w hw => cl.out _ _ _ _ (by repeat (first | exact .head _ | with_reducible assumption | apply mC)) (by repeat (first | exact .head _ | with_reducible assumption | apply mC)) (by repeat (first | exact .head _ | with_reducible assumption | apply mC)) w hw)) (by repeat (first | exact xCd | refine xBu (by repeat (first | exact .head _ | with_reducible assumption | apply mC)) ?_)) ?_ ?_
    case refine_2 => exact f_nil
    try simp only [Act.put, kA, kB, List.setIfInBounds_toArray]
    refine fHeads [(bg, Obj.cells (gl p q g h).toArray 26), (bk, Obj.cells (nl key).toArray 24), (bh, Obj.cells (u8s 32 H).toArray 28), (bz, Obj.cells (nl2 c s).toArray 30), (br, Obj.cells (nl r).toArray 24)] [2, 2, 2, 2, 2, 2, 2, 2, 2, 2, 2, 2, 1, 1, 1, 2] 1 rfl (by repeat (first | exact xCd | refine xBu (by repeat (first | exact .head _ | with_reducible assumption | apply mC)) ?_)) (by repeat (first | exact xCd | refine xBu (by repeat (first | exact .head _ | with_reducible assumption | apply mC)) ?_)) rfl (by decide +kernel) (fun K hK => ?_)
    repeat ((first | (refine' xBd (by decide) rfl rfl (fun w => ?hq) ?ha ?_; (case hq => simp only [List.map_toArray, List.map_cons, List.map_nil]; exact bs _)) | (refine' hd_keepAll rfl rfl rfl inferInstance ?hm ?hn ?ha ?_; (case hm => first | with_reducible assumption | repeat (first | exact .head _ | apply mC)); (case hn => first | rfl | simp)) | (refine xBo ?_) | (refine' xAv (by decide) rfl (.inl rfl) rfl ?ha ?_) | (refine' xAv (by decide) rfl (.inr rfl) rfl ?ha ?_) | (refine' xAu rfl rfl rfl inferInstance ?hm ?hn ?ha ?_; (case hm => first | with_reducible assumption | repeat (first | exact .head _ | with_reducible assumption | apply mC)); (case hn => first | rfl | simp)) | (refine' xAp rfl rfl rfl inferInstance ?hm ?hv ?hn ?ha ?_; (case hm => first | with_reducible assumption | repeat (first | exact .head _ | with_reducible assumption | apply mC)); (case hv => first | with_reducible assumption | (simp only [kC, kD, kE, kF]; try rfl)); (case hn => first | rfl | simp)) | (refine' xAl rfl rfl rfl inferInstance ?hm ?hv ?ha ?_; (case hm => first | with_reducible assumption | repeat (first | exact .head _ | with_reducible assumption | apply mC)); (case hv => first | rfl | with_reducible assumption)) | (refine' xAq rfl rfl rfl inferInstance ?hm ?hv ?hn ?ha ?_; (case hm => first | with_reducible assumption | repeat (first | exact .head _ | with_reducible assumption | apply mC)); (case hv => first | with_reducible assumption | (simp only [kC, kD, kE, kF]; try rfl)); (case hn => first | rfl | simp)) | (refine' xAm rfl rfl rfl inferInstance ?hm ?hv ?ha ?_; (case hm => first | with_reducible assumption | repeat (first | exact .head _ | with_reducible assumption | apply mC)); (case hv => first | rfl | with_reducible assumption)) | ((first | refine' xAi (by decide) rfl rfl rfl rfl (fun w => ?hq) ?ha ?_ | refine' xBe (by decide) rfl rfl rfl rfl (fun w => ?hq) ?ha ?_ | refine' xAs (by decide) rfl rfl rfl (fun w => ?hq) ?ha ?_ | refine' xAj (by decide) rfl rfl rfl (fun w => ?hq) ?ha ?_ | refine' xAt (by decide) rfl rfl rfl (fun w => ?hq) ?ha ?_ | refine' xBh (by decide) rfl rfl rfl rfl (fun w => ?hq) ?ha ?_ | refine' xBg (by decide) rfl rfl rfl rfl rfl rfl (fun w => ?hq) ?ha ?_ | refine' xBd (by decide) rfl rfl (fun w => ?hq) ?ha ?_ | refine' xAr (by decide) rfl rfl rfl (fun w => ?hq) ?ha ?_ | refine' xBf (by decide) rfl rfl rfl (fun w => ?hq) ?ha ?_); (case hq => go_simp; try rfl)) | (refine' xAk (by decide) rfl rfl rfl ?ha ?_) | (refine' xBp (by decide) rfl rfl rfl rfl ?ha ?_) | (refine' xBn (by decide) rfl ?ha ?_)); try (case ha => simp only [kP, kQ, kA, kB]; try rfl))
    refine xBt (hK _ _ ?_)
    clear hK K
    refine f_at [15] (by decide +kernel) rfl ?_
    refine f_is 15 ?_
    refine f_y rfl rfl (yields_move rfl rfl rfl) (by repeat (first | exact xCd | refine xBu (by repeat (first | exact .head _ | with_reducible assumption | apply mC)) ?_)) ?_ ?_
    case refine_2 => exact f_nil
    try simp only [Act.put, kA, kB, List.setIfInBounds_toArray]
    refine f_end (by decide +kernel) (fun w hR => ?_)
    simp only [Exit.then]
    refine kz _ _ ?_
    clear kz
    go_wp2_with (first | (refine' xAf hR rfl rfl rfl ?_; clear hR; intro blk w hR) | (refine' xAb hR rfl rfl inferInstance ?_; clear hR; intro blk w hR) | (refine' xAc hR rfl rfl rfl inferInstance ?hm ?hn ?_; (case hm => first | with_reducible assumption | repeat (first | exact .head _ | with_reducible assumption | apply mC)); (case hn => first | rfl | simp)) | (refine' xAd hR rfl rfl rfl inferInstance ?hm ?hv ?hn ?_; (case hm => first | with_reducible assumption | repeat (first | exact .head _ | with_reducible assumption | apply mC)); (case hv => first | with_reducible assumption | (simp only [kC, kD, kE, kF]; try rfl)); (case hn => first | rfl | simp)) | (refine' xAa hR rfl rfl rfl inferInstance rfl ?hs ?zone ?zvn ?hn ?_; (case hs => repeat (first | exact xAh.head | apply xAh.tail)); (case zone => first | rfl | with_reducible assumption); (case zvn => first | rfl | simp); (case hn => first | rfl | simp); clear hR; intro w hR) | fail)
    go_ret
    exact ⟨rfl, hR.below⟩
  · have pr := fun (b1 b2 : Nat) (L : List (Nat × Obj)) (w' : World) (m1 : (b1, Obj.cells (nl2 g key).toArray 24) ∈ L) (m2 : (b2, Obj.cells (nl2 s bk').toArray 24) ∈ L) (hR : Rep W.heap.size W L w') => prod2_lit (q := q) (g := g) (h := h) (r := 0) (e := 1) hp hq h1.1.1 hg hk hs lB (if_neg fun h => hm h.1) (if_neg fun h => hm h.1) m1 m2 hR
    obtain rfl : res = false := by
      cases res
      · rfl
      · exact absurd (hres.1 rfl).1 hm
    clear hres hm h1 h2 h3 h0 L0 hbk lb lB hH
    go_enter Try.func14, Try.ntmps14
    go_wp2_with (first | go_skip | (refine' xAf hR rfl rfl rfl ?_; clear hR; intro blk w hR) | (refine' xAb hR rfl rfl inferInstance ?_; clear hR; intro blk w hR) | (refine' xAc hR rfl rfl rfl inferInstance ?hm ?hn ?_; (case hm => first | with_reducible assumption | repeat (first | exact .head _ | with_reducible assumption | apply mC)); (case hn => first | rfl | simp)) | (refine' xAd hR rfl rfl rfl inferInstance ?hm ?hv ?hn ?_; (case hm => first | with_reducible assumption | repeat (first | exact .head _ | with_reducible assumption | apply mC)); (case hv => first | with_reducible assumption | (simp only [kC, kD, kE, kF]; try rfl)); (case hn => first | rfl | simp)) | (refine' xAa hR rfl rfl rfl inferInstance rfl ?hs ?zone ?zvn ?hn ?_; (case hs => repeat (first | exact xAh.head | apply xAh.tail)); (case zone => first | rfl | with_reducible assumption); (case zvn => first | rfl | simp); (case hn => first | rfl | simp); clear hR; intro w hR) | (refine' xAy hR rfl rfl rfl inferInstance ?hm ?hn ?_; (case hm => first | with_reducible assumption | repeat (first | exact .head _ | with_reducible assumption | apply mC)); (case hn => first | rfl | simp)) | (refine' xBb hR rfl rfl rfl inferInstance ?hm ?hv ?hn ?_; (case hm => first | with_reducible assumption | repeat (first | exact .head _ | with_reducible assumption | apply mC)); (case hv => first | with_reducible assumption | (simp only [kC, kD, kE, kF]; try rfl)); (case hn => first | rfl | simp)) | (go_at_call 16; refine (i1 _).mono ?_; rintro e w ⟨rfl, hb⟩; replace hR := hR.call hb; clear hb) | (refine' xCf hR rfl rfl rfl rfl (xCg _ _) ?_; clear hR; intro bt w hR) | (go_at_call 28; refine (cx _ _ _ (.head _) hR).mono ?_; clear hR; rintro e w ⟨rfl, hR⟩) | (go_at_call 20; refine (sb _).mono ?_; rintro e w ⟨rfl, hb⟩; replace hR := hR.call hb; clear hb) | (go_at_call 31; refine (pr _ _ _ _ (by repeat (first | exact .head _ | apply mC)) (by repeat (first | exact .head _ | apply mC)) hR).mono ?_; rintro e w ⟨rfl, hb⟩; replace hR := hR.call hb; clear hb))
    refine xAn hR [0, 0, 0, 0, 0, 0, 0, 0, 0, 0, 0, 0, 0, 0, 0, 2] [] xCu (by kernel_rfl) rfl rfl (fun K hK => ?_)
    clear hR
    repeat ((first | (refine xBo ?_) | (refine' xAv (by decide) rfl (.inl rfl) rfl ?ha ?_) | (refine' xAv (by decide) rfl (.inr rfl) rfl ?ha ?_) | (refine' xAu rfl rfl rfl inferInstance ?hm ?hn ?ha ?_; (case hm => first | with_reducible assumption | repeat (first | exact .head _ | with_reducible assumption | apply mC)); (case hn => first | rfl | simp)) | (refine' xAp rfl rfl rfl inferInstance ?hm ?hv ?hn ?ha ?_; (case hm => first | with_reducible assumption | repeat (first | exact .head _ | with_reducible assumption | apply mC)); (case hv => first | with_reducible assumption | (simp only [kC, kD, kE, kF]; try rfl)); (case hn => first | rfl | simp)) | (refine' xAl rfl rfl rfl inferInstance ?hm ?hv ?ha ?_; (case hm => first | with_reducible assumption | repeat (first | exact .head _ | with_reducible assumption | apply mC)); (case hv => first | rfl | with_reducible assumption)) | (refine' xAq rfl rfl rfl inferInstance ?hm ?hv ?hn ?ha ?_; (case hm => first | with_reducible assumption | repeat (first | exact .head _ | with_reducible assumption | apply mC)); (case hv => first | with_reducible assumption | (simp only [kC, kD, kE, kF]; try rfl)); (case hn => first | rfl | simp)) | (refine' xAm rfl rfl rfl inferInstance ?hm ?hv ?ha ?_; (case hm => first | with_reducible assumption | repeat (first | exact .head _ | with_reducible assumption | apply mC)); (case hv => first | rfl | with_reducible assumption)) | ((first | refine' xAi (by decide) rfl rfl rfl rfl (fun w => ?hq) ?ha ?_ | refine' xBe (by decide) rfl rfl rfl rfl (fun w => ?hq) ?ha ?_ | refine' xAs (by decide) rfl rfl rfl (fun w => ?hq) ?ha ?_ | refine' xAj (by decide) rfl rfl rfl (fun w => ?hq) ?ha ?_ | refine' xAt (by decide) rfl rfl rfl (fun w => ?hq) ?ha ?_ | refine' xBh (by decide) rfl rfl rfl rfl (fun w => ?hq) ?ha ?_ | refine' xBg (by decide) rfl rfl rfl rfl rfl rfl (fun w => ?hq) ?ha ?_ | refine' xBd (by decide) rfl rfl (fun w => ?hq) ?ha ?_ | refine' xAr (by decide) rfl rfl rfl (fun w => ?hq) ?ha ?_ | refine' xBf (by decide) rfl rfl rfl (fun w => ?hq) ?ha ?_); (case hq => go_simp; try rfl)) | (refine' xAk (by decide) rfl rfl rfl ?ha ?_) | (refine' xBp (by decide) rfl rfl rfl rfl ?ha ?_) | (refine' xBn (by decide) rfl ?ha ?_) | fail); try (case ha => simp only [kP, kQ, kA, kB]; try rfl))
    refine xBt (hK _ _ ?_)
    clear hK K
    refine xBy (fun Q hQ => ?_)
    try simp only [List.nil_append, List.cons_append]
    repeat ((first | refine' xBa rfl (.inl rfl) rfl ?hk ?ha ?_ | refine' xBa rfl (.inr rfl) rfl ?hk ?ha ?_ | (refine' xAx rfl rfl rfl inferInstance rfl ?hs rfl rfl ?hn ?hk ?ha ?_; (case hs => repeat (first | exact xAh.head | apply xAh.tail)); (case hn => first | rfl | simp)) | (refine' xAo rfl rfl rfl inferInstance rfl rfl ?hs ?hn ?hl ?hk ?ha ?_; (case hs => repeat (first | exact xAh.head | apply xAh.tail)); (case hn => first | exact oD rfl | (show _ < 4; with_reducible assumption) | (simp; try omega)); (case hl => first | with_reducible assumption | (simp only [nl, kA, kB]; first | done | rfl) | rfl)) | (refine' xAw rfl rfl rfl inferInstance rfl rfl ?hvn ?hs ?hn ?hl ?hk ?ha ?_; (case hvn => first | rfl | simp); (case hs => repeat (first | exact xAh.head | apply xAh.tail)); (case hn => first | exact oD rfl | (show _ < 4; with_reducible assumption) | (simp; try omega)); (case hl => first | with_reducible assumption | (simp only [nl, kA, kB]; first | done | rfl) | rfl)) | (refine' xBq rfl (fun w => ?hq) ?hk ?ha ?_; (case hq => go_simp; try rfl))); (case hk => intro p hp; first | exact absurd hp List.not_mem_nil | (obtain rfl := List.mem_singleton.1 hp; repeat (first | exact List.Mem.head _ | with_reducible assumption | apply mC))); (case ha => simp only [kP, kQ, kA, kB]; try rfl))
    refine xBz (fun w hR => hQ _ _ ?_)
    clear hQ Q
    go_wp2_with (first | (refine' xAf hR rfl rfl rfl ?_; clear hR; intro blk w hR) | (refine' xAb hR rfl rfl inferInstance ?_; clear hR; intro blk w hR) | (refine' xAc hR rfl rfl rfl inferInstance ?hm ?hn ?_; (case hm => first | with_reducible assumption | repeat (first | exact .head _ | with_reducible assumption | apply mC)); (case hn => first | rfl | simp)) | (refine' xAd hR rfl rfl rfl inferInstance ?hm ?hv ?hn ?_; (case hm => first | with_reducible assumption | repeat (first | exact .head _ | with_reducible assumption | apply mC)); (case hv => first | with_reducible assumption | (simp only [kC, kD, kE, kF]; try rfl)); (case hn => first | rfl | simp)) | (refine' xAa hR rfl rfl rfl inferInstance rfl ?hs ?zone ?zvn ?hn ?_; (case hs => repeat (first | exact xAh.head | apply xAh.tail)); (case zone => first | rfl | with_reducible assumption); (case zvn => first | rfl | simp); (case hn => first | rfl | simp); clear hR; intro w hR) | fail)
    go_ret
    exact ⟨rfl, hR.below⟩
theorem chk_lit {res : Bool} (hp : p < B) (hq : q < B) (hg : g < B) (hk : key < B) (hc : c < B) (hs : s < B) (hH : ∀ i, H i < 256) (hres : res = true ↔ chkOk p q g key H c s) (w : World) : Calls Try.prog 14 #[grp p q g h, num key, .agg (u8s 32 H).toArray, sigV c s] w fun e' w' =>
    e' = .returned (.bool res) ∧ Below w.heap.size w w' := by
  classical
  by_cases h' : inG p q key ∧ key ≠ 1 ∧ okX q c s
  · obtain ⟨h1, h2, h3⟩ := h'
    exact chk_late hp hq hg hk hc hs hH h1 h2 h3 ⟨fun h => (hres.1 h).2.2.2, fun h => hres.2 ⟨h1, h2, h3, h⟩⟩ w
  · obtain rfl : res = false := by
      cases res
      · rfl
      · exact absurd ⟨(hres.1 rfl).1, (hres.1 rfl).2.1, (hres.1 rfl).2.2.1⟩ h'
    exact chk_early hp hq hk hc hs h' w
end
end Go.Proofs.Ytklidiambinhkaa
