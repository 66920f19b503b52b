/- The contract of proofs.Prove. -/
import Derived.Test.YthbcgcncoggagaaVPA
set_option linter.unusedVariables false
set_option linter.unusedSimpArgs false
namespace Go.Proofs.Ythbcgcncoggagaa
open Go.RowKit
noncomputable abbrev prfV (c s : Nat) : Value := .agg (nl2 c s).toArray
instance rowPrf : RowT Try.prog 28 8 := .mk' (by kernel_rfl) (by kernel_rfl)
instance zeroPrf : ZeroT Try.prog 28 [.int .u64 0, .int .u64 0, .int .u64 0, .int .u64 0, .int .u64 0, .int .u64 0, .int .u64 0, .int .u64 0] := ⟨.agg #[.int .u64 0, .int .u64 0, .int .u64 0, .int .u64 0, .int .u64 0, .int .u64 0, .int .u64 0, .int .u64 0], by kernel_rfl, rfl⟩
instance zeroFld : ZeroT Try.prog 84 [.int .u64 0, .int .u64 0, .int .u64 0, .int .u64 0, .int .u64 0, .int .u64 0, .int .u64 0, .int .u64 0, .int .u64 0, .int .u64 0, .int .u64 0, .int .u64 0, .int .u64 0, .int .u64 0, .int .u64 0, .int .u64 0, .string ⟨#[]⟩] := ⟨.agg (List.toArray [.int .u64 0, .int .u64 0, .int .u64 0, .int .u64 0, .int .u64 0, .int .u64 0, .int .u64 0, .int .u64 0, .int .u64 0, .int .u64 0, .int .u64 0, .int .u64 0, .int .u64 0, .int .u64 0, .int .u64 0, .int .u64 0, .string ⟨#[]⟩]), by kernel_rfl, rfl⟩
theorem build_prf (c s : Nat) (w : World) : (Instr.build 28 #[(0, .agg (nl c).toArray), (1, .agg (nl s).toArray)]).run Try.prog w = .ok (prfV c s) w := by
  unfold prfV nl nl2
  kernel_rfl
theorem build_prf0 (w : World) : (Instr.build 28 #[]).run Try.prog w = .ok (prfV 0 0) w := by
  unfold prfV
  rw [← nl2_zero]
  kernel_rfl
attribute [local irreducible] Calls Instr.build Instr.buildSlice
section
variable {P : Program} {ops : Array Oper} {B0 : Nat} {w0 : World} {Kp : List (Nat × Obj)}
theorem hd_callB {ts : List Nat} {r acc : List Oper} {o : Oper} {a : Act} {K : List Oper → Act → Prop} {C : World → Prop} (hw : Region.wanted o (yielded ops a.tmps) = true) {f : FuncId} {x : Operand} {xs : List Operand} {us : Array TypeId} (hop : o.op = .call { callee := .value x, args := xs.toArray, argTypes := us }) {fs : List Value} (hf : ev a x = some (.func (.func f) fs.toArray #[])) {vs : List Value} {v : Value} (hx' : evL a xs = some vs)
    (hent : ∀ w, (callFunc f (fs ++ vs).toArray).run P w = .ok (.enter f (fs ++ vs).toArray) w) (hq : ∀ w, Calls P f (fs ++ vs).toArray w fun e w' => e = .returned v ∧ Below w.heap.size w w')
    {a' : Act} (ha : a.put o.dst v = a') (h : xCc P ops (keeps B0 w0 Kp) C K ts r acc a') : xCc P ops (keeps B0 w0 Kp) C K (1 :: ts) (o :: r) acc a :=
  hd_keep hw (fun L w hL hR => by
    have e : (execOp a.eval o).run P w = .ok (.enter f (fs ++ vs).toArray) w := by
      have hx := evL_eval hx'
      have hf := xBo hf
      unfold execOp
      simp only [hop, resolve, Deferred.ofValue, hf, Sem.run_bind, Sem.run_pure, Result.andThen_ok, hx]
      have := hent w
      simpa [invoke] using this
    rw [e]
    exact (hq w).mono fun e w' ⟨he, hb⟩ => ⟨he, hR.call hb⟩) ha h
theorem isNew_six {o : Oper} {a : Act} {x0 x1 x2 x3 x4 x5 : Operand} {n0 n1 n2 n3 n4 n5 : Nat} (hg : o.guard = none) (hop : o.op = .buildSlice 73 6 #[(0, x0), (1, x1), (2, x2), (3, x3), (4, x4), (5, x5)]) (h0 : ev a x0 = some (num n0)) (h1 : ev a x1 = some (num n1)) (h2 : ev a x2 = some (num n2)) (h3 : ev a x3 = some (num n3)) (h4 : ev a x4 = some (num n4)) (h5 : ev a x5 = some (num n5)) : IsNew Try.prog o a (.cells (nl6 n0 n1 n2 n3 n4 n5).toArray 24) (fun b => .slice (some ⟨b, 0, none⟩) 6 6) :=
  ⟨hg, fun w => by
    unfold execOp
    simp only [hop, List.map_toArray, List.map_cons, List.map_nil, xBo h0, xBo h1, xBo h2, xBo h3, xBo h4, xBo h5, build_nums6, Sem.run_bind, Result.andThen_ok, Sem.run_pure]⟩
end
def proveOk (p q x base y d : Nat) : Prop := (mayG p base ∧ mayG p y) ∧ (1 < q ∧ x < q) ∧ (1 < q ∧ d < q) ∧ d ≠ 0
noncomputable def prC (p q : Nat) (s : ByteArray) (x base y d : Nat) : Nat := chalP s [base, powN base x p, y, powN y x p, powN base d p, powN y d p] q
noncomputable def prS (p q : Nat) (s : ByteArray) (x base y d : Nat) : Nat := (d + mulN x (prC p q s x base y d) q) % q
section
variable {p q g h x base y d : Nat} {s : ByteArray}
set_option maxRecDepth 100000 in
set_option maxHeartbeats 8000000 in
theorem prove_no (hp : p < B) (hq : q < B) (hx : x < B) (hb : base < B) (hy : y < B) (hd : d < B) (hno : ¬ proveOk p q x base y d) (w : World) : Calls Try.prog 16 #[grp p q g h, .string s, num x, num base, num y, num d] w fun e' w' =>
    e' = .returned (.tuple #[prfV 0 0, .int .i64 1]) ∧ Below w.heap.size w w' := by
  have bs := fun w => build_prf0 w
  have bf := fun w => build_fld p q g h s w
  obtain ⟨e1, he1⟩ : ∃ e, (if mayG p base ∧ mayG p y then (0 : Int) else 1) = e := ⟨_, rfl⟩
  have x1 := gmul_lit (q := q) (g := g) (h := h) hp hb hy rfl he1
  generalize (if mayG p base ∧ mayG p y then mulN base y p else 0) = r1 at *
  obtain ⟨b1, hb1⟩ : ∃ b, decide (1 < q ∧ x < q) = b := ⟨_, rfl⟩
  obtain ⟨b2, hb2⟩ : ∃ b, decide (1 < q ∧ d < q) = b := ⟨_, rfl⟩
  have f1 := fexp_lit (p := p) (g := g) (h := h) (s := s) hq hx hb1
  have f2 := fexp_lit (p := p) (g := g) (h := h) (s := s) hq hd hb2
  have hc : e1 = 1 ∨ (e1 = 0 ∧ b1 = false) ∨ (e1 = 0 ∧ b1 = true ∧ b2 = false) ∨ (e1 = 0 ∧ b1 = true ∧ b2 = true ∧ eqN d 0 = true) := by
    by_cases h1 : mayG p base ∧ mayG p y
    · rw [if_pos h1] at he1
      by_cases h2 : 1 < q ∧ x < q
      · by_cases h3 : 1 < q ∧ d < q
        · by_cases h4 : d = 0
          · exact .inr (.inr (.inr ⟨he1.symm, by rw [← hb1]; exact decide_eq_true h2, by rw [← hb2]; exact decide_eq_true h3, eqN_yes h4⟩))
          · exact absurd ⟨h1, h2, h3, h4⟩ hno
        · exact .inr (.inr (.inl ⟨he1.symm, by rw [← hb1]; exact decide_eq_true h2, by rw [← hb2]; exact decide_eq_false h3⟩))
      · exact .inr (.inl ⟨he1.symm, by rw [← hb1]; exact decide_eq_false h2⟩)
    · rw [if_neg h1] at he1
      exact .inl he1.symm
  clear hno hb1 hb2 he1
  have hR := Rep.init w
  rcases hc with rfl | ⟨rfl, rfl⟩ | ⟨rfl, rfl, rfl⟩ | ⟨rfl, rfl, rfl, j1⟩
  all_goals
    go_enter Try.func16, Try.ntmps16
    go_wp2_with (first | go_skip | (refine' xAe hR rfl rfl rfl ?_; clear hR; intro blk w hR) | (refine' xAb hR rfl rfl inferInstance ?_; clear hR; intro blk w hR) | (refine' xAc hR rfl rfl rfl inferInstance ?hm ?hn ?_; (case hm => first | with_reducible assumption | repeat (first | exact .head _ | with_reducible assumption | apply mC)); (case hn => first | rfl | simp)) | (refine' xAd hR rfl rfl rfl inferInstance ?hm ?hv ?hn ?_; (case hm => first | with_reducible assumption | repeat (first | exact .head _ | with_reducible assumption | apply mC)); (case hv => first | with_reducible assumption | (simp only [kC, kD, kE, kF]; try rfl)); (case hn => first | rfl | simp)) | (refine' xBg hR rfl rfl rfl inferInstance ?hm ?hv ?_; (case hm => first | with_reducible assumption | repeat (first | exact .head _ | with_reducible assumption | apply mC)); (case hv => first | rfl | with_reducible assumption)) | (refine' xAa hR rfl rfl rfl inferInstance rfl ?hs ?zone ?zvn ?hn ?_; (case hs => repeat (first | exact xAf.head | apply xAf.tail)); (case zone => first | rfl | with_reducible assumption); (case zvn => first | rfl | simp); (case hn => first | rfl | simp); clear hR; intro w hR) | (refine' xBe hR rfl rfl rfl inferInstance rfl rfl ?hs ?hn ?hl ?_; (case hs => repeat (first | exact xAf.head | apply xAf.tail)); (case hn => first | exact oD rfl | (show _ < 4; with_reducible assumption) | (simp; try omega)); (case hl => first | with_reducible assumption | (simp only [nl, kA, kB]; first | done | rfl) | rfl); clear hR; intro w hR) | (refine' xAg hR rfl rfl rfl inferInstance ?hm ?hn ?_; (case hm => first | with_reducible assumption | repeat (first | exact .head _ | with_reducible assumption | apply mC)); (case hn => first | rfl | simp)) | (refine' xBf hR rfl rfl rfl inferInstance ?hm ?hv ?_; (case hm => first | with_reducible assumption | repeat (first | exact .head _ | with_reducible assumption | apply mC)); (case hv => first | rfl | with_reducible assumption)) | (refine' xAp hR rfl rfl rfl inferInstance ?hm ?hv ?hn ?_; (case hm => first | with_reducible assumption | repeat (first | exact .head _ | with_reducible assumption | apply mC)); (case hv => first | with_reducible assumption | (simp only [kC, kD, kE, kF]; try rfl)); (case hn => first | rfl | simp)) | (go_at_call 49; refine (x1 _).mono ?_; rintro e w ⟨rfl, hb⟩; replace hR := hR.call hb; clear hb) | (go_at_call 50; refine (f1 _).mono ?_; rintro e w ⟨rfl, hb⟩; replace hR := hR.call hb; clear hb) | (go_at_call 50; refine (f2 _).mono ?_; rintro e w ⟨rfl, hb⟩; replace hR := hR.call hb; clear hb) | (refine' xCf (t := 84) rfl rfl ?hrun ?_; (case hrun => simp only [List.map_toArray, List.map_cons, List.map_nil]; exact build_fld _ _ _ _ _ _)))
    (refine' bodyPost_ret (xBd Try.results16 rfl (hR.loadAll (P := Try.prog) (ty := 28) ?hm ?hn)) rfl ⟨?_, hR.below⟩; (case hm => first | with_reducible assumption | repeat (first | exact .head _ | with_reducible assumption | apply mC)); (case hn => first | rfl | simp))
    unfold prfV
    rw [← nl2_zero]
    rfl
end
end Go.Proofs.Ythbcgcncoggagaa
namespace Go.Proofs.Ythbcgcncoggagaa
open Go.RowKit
attribute [local irreducible] Calls Instr.build Instr.buildSlice
section
variable {p q g h x base y d : Nat} {s : ByteArray}
set_option maxRecDepth 100000 in
set_option maxHeartbeats 16000000 in
theorem prove_yes (hp : p < B) (hq : q < B) (hx : x < B) (hb : base < B) (hy : y < B) (hd : d < B) (hs : s.size ≤ 100000) (hok : proveOk p q x base y d) (w : World) : Calls Try.prog 16 #[grp p q g h, .string s, num x, num base, num y, num d] w fun e' w' =>
    e' = .returned (.tuple #[prfV (prC p q s x base y d) (prS p q s x base y d), .int .i64 0]) ∧ Below w.heap.size w w' := by
  obtain ⟨h1, h2, h3, h4⟩ := hok
  have m1 := gmul_lit (q := q) (g := g) (h := h) (e := 0) (r := mulN base y p) hp hb hy (if_pos h1) (if_pos h1)
  generalize mulN base y p = r1 at *
  have f1 := fexp_lit (p := p) (g := g) (h := h) (s := s) (b := true) hq hx (decide_eq_true h2)
  have f2 := fexp_lit (p := p) (g := g) (h := h) (s := s) (b := true) hq hd (decide_eq_true h3)
  have j1 := eqN_no hd B_pos h4
  unfold prS prC
  obtain ⟨y1, e1⟩ : ∃ k, powN base x p = k := ⟨_, rfl⟩
  obtain ⟨y2, e2⟩ : ∃ k, powN y x p = k := ⟨_, rfl⟩
  obtain ⟨y3, e3⟩ : ∃ k, powN base d p = k := ⟨_, rfl⟩
  obtain ⟨y4, e4⟩ : ∃ k, powN y d p = k := ⟨_, rfl⟩
  have x1 := fpow_lit (q := q) (g := g) (h := h) (s := s) (r := y1) hp hb hx (by rw [if_pos h1.1, e1])
  have x2 := fpow_lit (q := q) (g := g) (h := h) (s := s) (r := y2) hp hy hx (by rw [if_pos h1.2, e2])
  have x3 := fpow_lit (q := q) (g := g) (h := h) (s := s) (r := y3) hp hb hd (by rw [if_pos h1.1, e3])
  have x4 := fpow_lit (q := q) (g := g) (h := h) (s := s) (r := y4) hp hy hd (by rw [if_pos h1.2, e4])
  rw [e1, e2, e3, e4]
  obtain ⟨c, hc⟩ : ∃ c, chalP s [base, y1, y, y2, y3, y4] q = c := ⟨_, rfl⟩
  have lc : c < q := by rw [← hc]; exact chalP_lt (by omega) _ _
  rw [hc]
  have cc := fun (nb : Nat) (M : List (Nat × Obj)) (hm : (nb, Obj.cells (nl6 base y1 y y2 y3 y4).toArray 24) ∈ M) (w' : World) (hR : Rep w.heap.size w M w') => fchal_any (p := p) (g := g) (h := h) hq hs hc hm hR
  obtain ⟨m, hm⟩ : ∃ m, mulN x c q = m := ⟨_, rfl⟩
  have lm : m < q := by rw [← hm, mulN_def]; exact Nat.mod_lt _ (by omega)
  obtain ⟨S, hS⟩ : ∃ S, (d + m) % q = S := ⟨_, rfl⟩
  rw [hm, hS]
  have cm := smul_lit (p := p) (g := g) (h := h) (e := 0) (r := m) hx (by omega : c < B) hq (by rw [if_pos ⟨h2.1, h2.2, lc⟩, hm]) (if_pos ⟨h2.1, h2.2, lc⟩)
  have ca := sadd_lit (p := p) (g := g) (h := h) (e := 0) (r := S) hd (by omega : m < B) hq (by rw [if_pos ⟨h3.1, h3.2, lm⟩, hS]) (if_pos ⟨h3.1, h3.2, lm⟩)
  have bs := fun w => build_prf c S w
  clear h1 h2 h3 h4 e1 e2 e3 e4 lc hm lm hS hc
  have hR := Rep.init w
  obtain ⟨W, hW⟩ : ∃ x, x = w := ⟨_, rfl⟩
  subst hW
  go_enter Try.func16, Try.ntmps16
  go_wp2_with (first | go_skip | (refine' xAe hR rfl rfl rfl ?_; clear hR; intro blk w hR) | (refine' xAb hR rfl rfl inferInstance ?_; clear hR; intro blk w hR) | (refine' xAc hR rfl rfl rfl inferInstance ?hm ?hn ?_; (case hm => first | with_reducible assumption | repeat (first | exact .head _ | with_reducible assumption | apply mC)); (case hn => first | rfl | simp)) | (refine' xAd hR rfl rfl rfl inferInstance ?hm ?hv ?hn ?_; (case hm => first | with_reducible assumption | repeat (first | exact .head _ | with_reducible assumption | apply mC)); (case hv => first | with_reducible assumption | (simp only [kC, kD, kE, kF]; try rfl)); (case hn => first | rfl | simp)) | (refine' xBg hR rfl rfl rfl inferInstance ?hm ?hv ?_; (case hm => first | with_reducible assumption | repeat (first | exact .head _ | with_reducible assumption | apply mC)); (case hv => first | rfl | with_reducible assumption)) | (refine' xAa hR rfl rfl rfl inferInstance rfl ?hs ?zone ?zvn ?hn ?_; (case hs => repeat (first | exact xAf.head | apply xAf.tail)); (case zone => first | rfl | with_reducible assumption); (case zvn => first | rfl | simp); (case hn => first | rfl | simp); clear hR; intro w hR) | (refine' xBe hR rfl rfl rfl inferInstance rfl rfl ?hs ?hn ?hl ?_; (case hs => repeat (first | exact xAf.head | apply xAf.tail)); (case hn => first | exact oD rfl | (show _ < 4; with_reducible assumption) | (simp; try omega)); (case hl => first | with_reducible assumption | (simp only [nl, kA, kB]; first | done | rfl) | rfl); clear hR; intro w hR) | (refine' xAg hR rfl rfl rfl inferInstance ?hm ?hn ?_; (case hm => first | with_reducible assumption | repeat (first | exact .head _ | with_reducible assumption | apply mC)); (case hn => first | rfl | simp)) | (refine' xBf hR rfl rfl rfl inferInstance ?hm ?hv ?_; (case hm => first | with_reducible assumption | repeat (first | exact .head _ | with_reducible assumption | apply mC)); (case hv => first | rfl | with_reducible assumption)) | (refine' xAp hR rfl rfl rfl inferInstance ?hm ?hv ?hn ?_; (case hm => first | with_reducible assumption | repeat (first | exact .head _ | with_reducible assumption | apply mC)); (case hv => first | with_reducible assumption | (simp only [kC, kD, kE, kF]; try rfl)); (case hn => first | rfl | simp)) | (go_at_call 49; refine (m1 _).mono ?_; rintro e w ⟨rfl, hb⟩; replace hR := hR.call hb; clear hb) | (go_at_call 50; refine (f1 _).mono ?_; rintro e w ⟨rfl, hb⟩; replace hR := hR.call hb; clear hb) | (go_at_call 50; refine (f2 _).mono ?_; rintro e w ⟨rfl, hb⟩; replace hR := hR.call hb; clear hb) | (refine' xCf (t := 84) rfl rfl ?hrun ?_; (case hrun => simp only [List.map_toArray, List.map_cons, List.map_nil]; exact build_fld _ _ _ _ _ _)))
  rename_i bg u1 bx u2 bb u3 by1 u4 bd u5 bv u6 bf u7 u8 u9 u10 u11 u12 K0 kz
  refine wp_region_F hR 23 mixed rfl ?_
  clear hR
  refine fHeads [(bf, Obj.cells (fl p q g h s).toArray 84), (bb, Obj.cells (nl base).toArray 24), (by1, Obj.cells (nl y).toArray 24), (bx, Obj.cells (nl x).toArray 24), (bd, Obj.cells (nl d).toArray 24)] [1, 1, 1, 1, 1, 1, 1, 1, 1, 1, 1, 1, 1, 1, 1, 1, 1, 1, 1, 2, 2, 2, 2] 4 rfl (by repeat (first | exact xCq | refine xCe (by repeat (first | exact .head _ | with_reducible assumption | apply mC)) ?_)) (by repeat (first | exact xCq | refine xCe (by repeat (first | exact .head _ | with_reducible assumption | apply mC)) ?_)) rfl (by decide +kernel) (fun K hK => ?_)
  repeat ((first | (refine' hd_keepAll rfl rfl rfl inferInstance ?hm ?hn ?ha ?_; (case hm => first | with_reducible assumption | repeat (first | exact .head _ | apply mC)); (case hn => first | rfl | simp)) | (refine' hd_callB rfl rfl rfl rfl (xBn Try.func51 (by kernel_rfl) (by kernel_rfl) _) (fun w => x1 w) ?ha ?_) | (refine' hd_callB rfl rfl rfl rfl (xBn Try.func51 (by kernel_rfl) (by kernel_rfl) _) (fun w => x2 w) ?ha ?_) | (refine' hd_callB rfl rfl rfl rfl (xBn Try.func51 (by kernel_rfl) (by kernel_rfl) _) (fun w => x3 w) ?ha ?_) | (refine' hd_callB rfl rfl rfl rfl (xBn Try.func51 (by kernel_rfl) (by kernel_rfl) _) (fun w => x4 w) ?ha ?_) | (refine xBq ?_) | (refine' xAx (by decide) rfl (.inl rfl) rfl ?ha ?_) | (refine' xAx (by decide) rfl (.inr rfl) rfl ?ha ?_) | (refine' xAt rfl rfl rfl inferInstance ?hm ?hn ?ha ?_; (case hm => first | with_reducible assumption | repeat (first | exact .head _ | with_reducible assumption | apply mC)); (case hn => first | rfl | simp)) | (refine' xAr rfl rfl rfl inferInstance ?hm ?hv ?hn ?ha ?_; (case hm => first | with_reducible assumption | repeat (first | exact .head _ | with_reducible assumption | apply mC)); (case hv => first | with_reducible assumption | (simp only [kC, kD, kE, kF]; try rfl)); (case hn => first | rfl | simp)) | (refine' xAk rfl rfl rfl inferInstance ?hm ?hv ?ha ?_; (case hm => first | with_reducible assumption | repeat (first | exact .head _ | with_reducible assumption | apply mC)); (case hv => first | rfl | with_reducible assumption)) | (refine' xAq rfl rfl rfl inferInstance ?hm ?hv ?hn ?ha ?_; (case hm => first | with_reducible assumption | repeat (first | exact .head _ | with_reducible assumption | apply mC)); (case hv => first | with_reducible assumption | (simp only [kC, kD, kE, kF]; try rfl)); (case hn => first | rfl | simp)) | (refine' xAm rfl rfl rfl inferInstance ?hm ?hv ?ha ?_; (case hm => first | with_reducible assumption | repeat (first | exact .head _ | with_reducible assumption | apply mC)); (case hv => first | rfl | with_reducible assumption)) | ((first | refine' xAi (by decide) rfl rfl rfl rfl (fun w => ?hq) ?ha ?_ | refine' xBk (by decide) rfl rfl rfl rfl (fun w => ?hq) ?ha ?_ | refine' xAw (by decide) rfl rfl rfl (fun w => ?hq) ?ha ?_ | refine' xAh (by decide) rfl rfl rfl (fun w => ?hq) ?ha ?_ | refine' xAu (by decide) rfl rfl rfl (fun w => ?hq) ?ha ?_ | refine' xBl (by decide) rfl rfl rfl rfl (fun w => ?hq) ?ha ?_ | refine' xBj (by decide) rfl rfl rfl rfl rfl rfl (fun w => ?hq) ?ha ?_ | refine' xBm (by decide) rfl rfl (fun w => ?hq) ?ha ?_ | refine' xAv (by decide) rfl rfl rfl (fun w => ?hq) ?ha ?_ | refine' xBi (by decide) rfl rfl rfl (fun w => ?hq) ?ha ?_); (case hq => go_simp; try rfl)) | (refine' xAl (by decide) rfl rfl rfl ?ha ?_) | (refine' xBp (by decide) rfl rfl rfl rfl ?ha ?_) | (refine' xBr (by decide) rfl ?ha ?_)); try (case ha => simp only [kP, kQ, kA, kB]; try rfl))
  refine xCa (hK _ _ ?_)
  clear hK K
  repeat' (first
    | exact f_nil
    | (refine f_is 19 ?_; refine f_new rfl rfl (isNew_six rfl rfl rfl rfl rfl rfl rfl rfl) (by repeat (first | exact xCq | refine xCe (by repeat (first | exact .head _ | with_reducible assumption | apply mC)) ?_)) (fun nb => ?_) ?_; try simp only [Act.put, kA, kB, List.setIfInBounds_toArray])
    | (refine f_is 20 ?_; refine f_y rfl rfl (yields_call rfl rfl rfl (xBn Try.func52 (by kernel_rfl) (by kernel_rfl) _) (fun w hw => cc _ _ (by repeat (first | exact .head _ | with_reducible assumption | apply mC)) w hw)) (by repeat (first | exact xCq | refine xCe (by repeat (first | exact .head _ | with_reducible assumption | apply mC)) ?_)) ?_ ?_; try simp only [Act.put, kA, kB, List.setIfInBounds_toArray])
    | (refine f_is 21 ?_; refine f_new rfl rfl (isNew_allocR rfl rfl) (by repeat (first | exact xCq | refine xCe (by repeat (first | exact .head _ | with_reducible assumption | apply mC)) ?_)) (fun b6 => ?_) ?_; try simp only [Act.put, kA, kB, List.setIfInBounds_toArray])
    | (refine f_is 22 ?_; refine f_s rfl rfl (yields_storeAll rfl rfl rfl inferInstance rfl rfl rfl rfl (by repeat (first | exact xAf.head | apply xAf.tail))) (by repeat (first | exact xCq | refine xCe (by repeat (first | exact .head _ | with_reducible assumption | apply mC)) ?_)) ?_ ?_; try simp only [Act.put, kA, kB, List.setIfInBounds_toArray])
    | refine f_at [19, 21] (by decide +kernel) rfl ?_
    | refine f_at [20, 21] (by decide +kernel) rfl ?_
    | refine f_at [19] (by decide +kernel) rfl ?_
    | refine f_at [20] (by decide +kernel) rfl ?_
    | refine f_at [21] (by decide +kernel) rfl ?_
    | refine f_at [22] (by decide +kernel) rfl ?_)
  all_goals refine f_end (by decide +kernel) (fun w hR => ?_)
  all_goals simp only [Exit.then]
  all_goals refine kz _ _ ?_
  all_goals clear kz
  all_goals go_wp2_with (first | (refine' xAe hR rfl rfl rfl ?_; clear hR; intro blk w hR) | (refine' xAb hR rfl rfl inferInstance ?_; clear hR; intro blk w hR) | (refine' xAc hR rfl rfl rfl inferInstance ?hm ?hn ?_; (case hm => first | with_reducible assumption | repeat (first | exact .head _ | with_reducible assumption | apply mC)); (case hn => first | rfl | simp)) | (refine' xAd hR rfl rfl rfl inferInstance ?hm ?hv ?hn ?_; (case hm => first | with_reducible assumption | repeat (first | exact .head _ | with_reducible assumption | apply mC)); (case hv => first | with_reducible assumption | (simp only [kC, kD, kE, kF]; try rfl)); (case hn => first | rfl | simp)) | (refine' xBg hR rfl rfl rfl inferInstance ?hm ?hv ?_; (case hm => first | with_reducible assumption | repeat (first | exact .head _ | with_reducible assumption | apply mC)); (case hv => first | rfl | with_reducible assumption)) | (refine' xAa hR rfl rfl rfl inferInstance rfl ?hs ?zone ?zvn ?hn ?_; (case hs => repeat (first | exact xAf.head | apply xAf.tail)); (case zone => first | rfl | with_reducible assumption); (case zvn => first | rfl | simp); (case hn => first | rfl | simp); clear hR; intro w hR) | (refine' xBe hR rfl rfl rfl inferInstance rfl rfl ?hs ?hn ?hl ?_; (case hs => repeat (first | exact xAf.head | apply xAf.tail)); (case hn => first | exact oD rfl | (show _ < 4; with_reducible assumption) | (simp; try omega)); (case hl => first | with_reducible assumption | (simp only [nl, kA, kB]; first | done | rfl) | rfl); clear hR; intro w hR) | (go_at_call 53; refine (cm _).mono ?_; rintro e w ⟨rfl, hb⟩; replace hR := hR.call hb; clear hb) | (go_at_call 54; refine (ca _).mono ?_; rintro e w ⟨rfl, hb⟩; replace hR := hR.call hb; clear hb) | (refine' xCf rfl rfl ?hrun ?_; (case hrun => simp only [List.map_toArray, List.map_cons, List.map_nil]; exact bs _)))
  all_goals (refine' bodyPost_ret (xBd Try.results16 rfl (hR.loadAll (P := Try.prog) (ty := 28) ?hm ?hn)) rfl ⟨rfl, hR.below⟩; (case hm => repeat (first | exact .head _ | apply mC)); (case hn => rfl))
end
end Go.Proofs.Ythbcgcncoggagaa
