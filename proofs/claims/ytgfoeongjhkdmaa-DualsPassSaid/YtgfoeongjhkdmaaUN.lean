/- Groups as values; the contracts of scalars.Add, Sub, Mul, Inv. -/
import Derived.Test.YtgfoeongjhkdmaaUM
import Derived.Test.YtgfoeongjhkdmaaUA
import Derived.ChangeArms
import Derived.ChangeSame
import Derived.WalkKit
import Derived.WalkSpells
import Derived.WalkLawsBesides
import Derived.Outline
import Derived.Test.YtgfoeongjhkdmaaUJ
import Derived.Test.YtgfoeongjhkdmaaUD
set_option linter.unusedVariables false
set_option linter.unusedSimpArgs false
namespace Go.Proofs.Ytgfoeongjhkdmaa
open Go.RowKit
attribute [local irreducible] Calls
noncomputable def gl (p q g h : Nat) : List Value := [.int .u64 (wd p 0), .int .u64 (wd p 1), .int .u64 (wd p 2), .int .u64 (wd p 3), .int .u64 (wd q 0), .int .u64 (wd q 1), .int .u64 (wd q 2), .int .u64 (wd q 3),
  .int .u64 (wd g 0), .int .u64 (wd g 1), .int .u64 (wd g 2), .int .u64 (wd g 3), .int .u64 (wd h 0), .int .u64 (wd h 1), .int .u64 (wd h 2), .int .u64 (wd h 3)]
noncomputable abbrev grp (p q g h : Nat) : Value := .agg (gl p q g h).toArray
instance : RowT Try.prog 26 16 := .mk' (by kernel_rfl) (by kernel_rfl)
instance : CellT Try.prog 2 := .mk' (by kernel_rfl) (by kernel_rfl)
def gz : List Value := [.int .u64 0, .int .u64 0, .int .u64 0, .int .u64 0, .int .u64 0, .int .u64 0, .int .u64 0, .int .u64 0, .int .u64 0, .int .u64 0, .int .u64 0, .int .u64 0, .int .u64 0, .int .u64 0, .int .u64 0, .int .u64 0]
instance : ZeroT Try.prog 26 gz := ⟨.agg gz.toArray, by kernel_rfl, rfl⟩
theorem wd_zero (i : Nat) : wd 0 i = 0 := by rw [wd_def]; simp
theorem gl_p (p q g h : Nat) : ((gl p q g h).drop 0).take 4 = nl p := rfl
theorem gl_q (p q g h : Nat) : ((gl p q g h).drop 4).take 4 = nl q := rfl
theorem gl_g (p q g h : Nat) : ((gl p q g h).drop 8).take 4 = nl g := rfl
theorem gl_h (p q g h : Nat) : ((gl p q g h).drop 12).take 4 = nl h := rfl
section
variable {p q g h a b r : Nat} {e : Int}
theorem sadd_lit (ha : a < B) (hb : b < B) (hq : q < B) (hr : (if okM a b q then (a + b) % q else 0) = r) (he : (if okM a b q then (0 : Int) else 1) = e) (w : World) : Calls Try.prog 14 #[grp p q g h, num a, num b] w fun e' w' =>
    e' = .returned (.tuple #[num r, .int .i64 e]) ∧ Below w.heap.size w w' := by
  have c1 := madd_lit ha hb hq hr he
  have tq := gl_q p q g h
  clear hr he
  have hR := Rep.init w
  go_enter Try.func14, Try.ntmps14
  go_wp2_with (first | (refine' xAb hR rfl rfl rfl ?_; clear hR; intro blk w hR) | (refine' xAa hR rfl rfl inferInstance ?_; clear hR; intro blk w hR) | (refine' aFq hR rfl rfl rfl inferInstance ?_) | (refine' aGq hR rfl rfl rfl inferInstance ?_) | (refine' aHq hR rfl rfl rfl inferInstance ?_) | (refine' aDq hR rfl rfl rfl inferInstance rfl ?_; clear hR; intro w hR) | (refine' aEq hR rfl rfl rfl inferInstance rfl rfl ?_; clear hR; intro w hR) | (go_at_call 34; refine (c1 _).mono ?_; rintro e w ⟨rfl, hb⟩; replace hR := hR.call hb; clear hb))
  (refine' bodyPost_ret (xBo Try.results14 rfl (hR.loadAll (P := Try.prog) (ty := 24) ?hm ?hn)) rfl ⟨?_, hR.below⟩; (case hm => first | with_reducible assumption | repeat (first | exact .head _ | with_reducible assumption | apply mC)); (case hn => first | rfl | simp))
  rfl
theorem ssub_lit (ha : a < B) (hb : b < B) (hq : q < B) (hr : (if okM a b q then subN a b q else 0) = r) (he : (if okM a b q then (0 : Int) else 1) = e) (w : World) : Calls Try.prog 71 #[grp p q g h, num a, num b] w fun e' w' =>
    e' = .returned (.tuple #[num r, .int .i64 e]) ∧ Below w.heap.size w w' := by
  have c1 := msub_lit ha hb hq hr he
  have tq := gl_q p q g h
  clear hr he
  have hR := Rep.init w
  go_enter Try.func71, Try.ntmps71
  go_wp2_with (first | (refine' xAb hR rfl rfl rfl ?_; clear hR; intro blk w hR) | (refine' xAa hR rfl rfl inferInstance ?_; clear hR; intro blk w hR) | (refine' aFq hR rfl rfl rfl inferInstance ?_) | (refine' aGq hR rfl rfl rfl inferInstance ?_) | (refine' aHq hR rfl rfl rfl inferInstance ?_) | (refine' aDq hR rfl rfl rfl inferInstance rfl ?_; clear hR; intro w hR) | (refine' aEq hR rfl rfl rfl inferInstance rfl rfl ?_; clear hR; intro w hR) | (go_at_call 36; refine (c1 _).mono ?_; rintro e w ⟨rfl, hb⟩; replace hR := hR.call hb; clear hb))
  (refine' bodyPost_ret (xBo Try.results71 rfl (hR.loadAll (P := Try.prog) (ty := 24) ?hm ?hn)) rfl ⟨?_, hR.below⟩; (case hm => first | with_reducible assumption | repeat (first | exact .head _ | with_reducible assumption | apply mC)); (case hn => first | rfl | simp))
  rfl
theorem smul_lit (ha : a < B) (hb : b < B) (hq : q < B) (hr : (if okM a b q then mulN a b q else 0) = r) (he : (if okM a b q then (0 : Int) else 1) = e) (w : World) : Calls Try.prog 15 #[grp p q g h, num a, num b] w fun e' w' =>
    e' = .returned (.tuple #[num r, .int .i64 e]) ∧ Below w.heap.size w w' := by
  have c1 := mmul_lit ha hb hq hr he
  have tq := gl_q p q g h
  clear hr he
  have hR := Rep.init w
  go_enter Try.func15, Try.ntmps15
  go_wp2_with (first | (refine' xAb hR rfl rfl rfl ?_; clear hR; intro blk w hR) | (refine' xAa hR rfl rfl inferInstance ?_; clear hR; intro blk w hR) | (refine' aFq hR rfl rfl rfl inferInstance ?_) | (refine' aGq hR rfl rfl rfl inferInstance ?_) | (refine' aHq hR rfl rfl rfl inferInstance ?_) | (refine' aDq hR rfl rfl rfl inferInstance rfl ?_; clear hR; intro w hR) | (refine' aEq hR rfl rfl rfl inferInstance rfl rfl ?_; clear hR; intro w hR) | (go_at_call 37; refine (c1 _).mono ?_; rintro e w ⟨rfl, hb⟩; replace hR := hR.call hb; clear hb))
  (refine' bodyPost_ret (xBo Try.results15 rfl (hR.loadAll (P := Try.prog) (ty := 24) ?hm ?hn)) rfl ⟨?_, hR.below⟩; (case hm => first | with_reducible assumption | repeat (first | exact .head _ | with_reducible assumption | apply mC)); (case hn => first | rfl | simp))
  rfl
theorem sinv_lit (ha : a < B) (hq : q < B) (hr : (if okE a q then invM a q else 0) = r) (he : invE a q = e) (w : World) : Calls Try.prog 17 #[grp p q g h, num a] w fun e' w' =>
    e' = .returned (.tuple #[num r, .int .i64 e]) ∧ Below w.heap.size w w' := by
  have c1 := minv_lit ha hq hr he
  have tq := gl_q p q g h
  clear hr he
  have hR := Rep.init w
  go_enter Try.func17, Try.ntmps17
  go_wp2_with (first | (refine' xAb hR rfl rfl rfl ?_; clear hR; intro blk w hR) | (refine' xAa hR rfl rfl inferInstance ?_; clear hR; intro blk w hR) | (refine' aFq hR rfl rfl rfl inferInstance ?_) | (refine' aGq hR rfl rfl rfl inferInstance ?_) | (refine' aHq hR rfl rfl rfl inferInstance ?_) | (refine' aDq hR rfl rfl rfl inferInstance rfl ?_; clear hR; intro w hR) | (refine' aEq hR rfl rfl rfl inferInstance rfl rfl ?_; clear hR; intro w hR) | (go_at_call 40; refine (c1 _).mono ?_; rintro e w ⟨rfl, hb⟩; replace hR := hR.call hb; clear hb))
  (refine' bodyPost_ret (xBo Try.results17 rfl (hR.loadAll (P := Try.prog) (ty := 24) ?hm ?hn)) rfl ⟨?_, hR.below⟩; (case hm => first | with_reducible assumption | repeat (first | exact .head _ | with_reducible assumption | apply mC)); (case hn => first | rfl | simp))
  rfl
end
theorem amount_any (n : Int) (h0 : -9223372036854775808 ≤ n) (h1 : n < 9223372036854775808) (w : World) : Calls Try.prog 31 #[.int .i64 n] w fun e w' =>
    e = .returned (.tuple #[.int .u64 (n.natAbs : Int), .int .i64 (if n < 0 then 1 else 0)]) ∧ Below w.heap.size w w' := by
  have hR := Rep.init w
  by_cases hn : n < 0
  · rw [if_pos hn]
    have e1 : IntKind.u64.wrap (-IntKind.u64.wrap n) = (n.natAbs : Int) := by
      rw [IntKind.wrap_u64, IntKind.wrap_u64]; omega
    obtain ⟨M, hM⟩ : ∃ M : Int, (n.natAbs : Int) = M := ⟨_, rfl⟩
    rw [hM] at e1 ⊢
    clear h0 h1 hM
    go_enter Try.func31, Try.ntmps31
    go_wp2_with (first | (refine' xAb hR rfl rfl rfl ?_; clear hR; intro blk w hR) | (refine' xAa hR rfl rfl inferInstance ?_; clear hR; intro blk w hR) | (refine' aFq hR rfl rfl rfl inferInstance ?_) | (refine' aGq hR rfl rfl rfl inferInstance ?_) | (refine' aHq hR rfl rfl rfl inferInstance ?_) | (refine' aDq hR rfl rfl rfl inferInstance rfl ?_; clear hR; intro w hR) | (refine' aEq hR rfl rfl rfl inferInstance rfl rfl ?_; clear hR; intro w hR) | fail)
    go_ret2
    exact ⟨rfl, hR.below⟩
  · rw [if_neg hn]
    have hn' : 0 ≤ n := by omega
    have e1 : IntKind.u64.wrap n = (n.natAbs : Int) := by
      rw [IntKind.wrap_u64]; omega
    go_enter Try.func31, Try.ntmps31
    go_wp2_with (first | (refine' xAb hR rfl rfl rfl ?_; clear hR; intro blk w hR) | (refine' xAa hR rfl rfl inferInstance ?_; clear hR; intro blk w hR) | (refine' aFq hR rfl rfl rfl inferInstance ?_) | (refine' aGq hR rfl rfl rfl inferInstance ?_) | (refine' aHq hR rfl rfl rfl inferInstance ?_) | (refine' aDq hR rfl rfl rfl inferInstance rfl ?_; clear hR; intro w hR) | (refine' aEq hR rfl rfl rfl inferInstance rfl rfl ?_; clear hR; intro w hR) | fail)
    go_ret2
    exact ⟨rfl, hR.below⟩
end Go.Proofs.Ytgfoeongjhkdmaa
namespace Go.Proofs.Ytgfoeongjhkdmaa
open Go.ChangeShapes Go.WideShapes Go.ChangeAt Go.RowKit
noncomputable def grpD {H : Type} (a b c d : Nat) : DataW H := .agg [numD a, numD b, numD c, numD d]
theorem list4' {α : Type} (l : List α) (h : l.length = 4) : ∃ a b c d, l = [a, b, c, d] := by
  match l, h with
  | [a, b, c, d], _ => exact ⟨a, b, c, d, rfl⟩
theorem trod_numG {H : Type} {enc : TypeId × Value → H} {W : World} {base fuel : Nat} {sp : Nat → Bool} {held : Bool} {cs : List Value} {y : DataW H × List MemPlace} (hl : cs.length = 4) (hf : DataW.trod enc Try.prog W base sp held fuel 24 cs = some y) :
    ∃ a, a < B ∧ cs = nl a ∧ y = (numD a, []) := by
  obtain ⟨c0, c1, c2, c3, rfl⟩ := list4' cs hl
  obtain ⟨y0, y1, y2, y3, m, hx, hy0, hy1, hy2, hy3⟩ := trod_array4 Try.underlying24 cells_u64 hf
  obtain ⟨x0, e0, rfl, w0⟩ := DataW.trod_int Try.underlying22 hy0
  obtain ⟨x1, e1, rfl, w1⟩ := DataW.trod_int Try.underlying22 hy1
  obtain ⟨x2, e2, rfl, w2⟩ := DataW.trod_int Try.underlying22 hy2
  obtain ⟨x3, e3, rfl, w3⟩ := DataW.trod_int Try.underlying22 hy3
  simp at e0 e1 e2 e3
  subst e0 e1 e2 e3
  subst hx
  obtain ⟨n0, rfl⟩ := Int.eq_ofNat_of_zero_le (wf_u64 w0).1
  obtain ⟨n1, rfl⟩ := Int.eq_ofNat_of_zero_le (wf_u64 w1).1
  obtain ⟨n2, rfl⟩ := Int.eq_ofNat_of_zero_le (wf_u64 w2).1
  obtain ⟨n3, rfl⟩ := Int.eq_ofNat_of_zero_le (wf_u64 w3).1
  have b0 := (wf_u64 w0).2
  have b1 := (wf_u64 w1).2
  have b2 := (wf_u64 w2).2
  have b3 := (wf_u64 w3).2
  have e := nl_ofW n0 n1 n2 n3 (by omega) (by omega) (by omega) (by omega)
  refine ⟨ofW n0 n1 n2 n3, ofW_lt _ _ _ _ (by omega) (by omega) (by omega) (by omega), e.symm, ?_⟩
  unfold nl at e
  simp only [List.cons.injEq, Value.int.injEq, true_and, and_true] at e
  obtain ⟨k0, k1, k2, k3⟩ := e
  unfold numD
  rw [k0, k1, k2, k3]
  simp
theorem split4 (l : List Value) (hl : l.length = 16) : l = (l.drop 0).take 4 ++ ((l.drop 4).take 4 ++ ((l.drop 8).take 4 ++ (l.drop 12).take 4)) := by
  have t3 : (l.drop 12).take 4 = l.drop 12 := List.take_of_length_le (by simp; omega)
  have t2 : l.drop 8 = (l.drop 8).take 4 ++ (l.drop 8).drop 4 := (List.take_append_drop 4 (l.drop 8)).symm
  have t1 : l.drop 4 = (l.drop 4).take 4 ++ (l.drop 4).drop 4 := (List.take_append_drop 4 (l.drop 4)).symm
  rw [List.drop_drop] at t1 t2
  rw [t3, ← t2, ← t1, List.drop_zero, List.take_append_drop]
theorem cells_grp : Try.prog.cellsOf 26 = 16 := by kernel_rfl
set_option maxRecDepth 100000 in
theorem open_grp {H : Type} {enc : TypeId × Value → H} {W : World} {base b0 : Nat} {r : Reach} {sp : Nat → Bool} {held : Bool} {v : Value} {d : DataW H} {ps : List MemPlace} (hval : Value.okWide Try.prog W r b0 26 v) (hd : DataW.Trod enc Try.prog W base sp held 26 v d ps) :
    ∃ a b c e, a < B ∧ b < B ∧ c < B ∧ e < B ∧ v = grp a b c e ∧ d = grpD a b c e ∧ ps = [] := by
  obtain ⟨cs, rfl, hsz, _⟩ : ∃ cs, v = .agg cs ∧ cs.size = Try.prog.cellsOf 26 ∧ Row.okWide Try.prog W r b0 26 cs := by
    simpa [Value.okWide, Try.underlying26] using hval
  rw [cells_grp] at hsz
  obtain ⟨l⟩ := cs
  have hl : l.length = 16 := by simpa using hsz
  obtain ⟨fuel, hf⟩ := hd
  change DataW.trod enc Try.prog W base sp held fuel 26 l = some (d, ps) at hf
  obtain ⟨xs, m, _, hx, _, hn, hi⟩ := DataW.trod_struct Try.underlying26 hf
  obtain ⟨x0, x1, x2, x3, rfl⟩ := list4' xs hn
  have h0 := hi 0 _ rfl
  have h1 := hi 1 _ rfl
  have h2 := hi 2 _ rfl
  have h3 := hi 3 _ rfl
  change DataW.trod enc Try.prog W base sp held m 24 ((l.drop 0).take (Try.prog.cellsOf 24)) = some x0 at h0
  change DataW.trod enc Try.prog W base sp held m 24 ((l.drop 4).take (Try.prog.cellsOf 24)) = some x1 at h1
  change DataW.trod enc Try.prog W base sp held m 24 ((l.drop 8).take (Try.prog.cellsOf 24)) = some x2 at h2
  change DataW.trod enc Try.prog W base sp held m 24 ((l.drop 12).take (Try.prog.cellsOf 24)) = some x3 at h3
  rw [cells_num] at h0 h1 h2 h3
  have e := split4 l hl
  obtain ⟨a, la, ea, rfl⟩ := trod_numG (by simp; omega) h0
  obtain ⟨b, lb, eb, rfl⟩ := trod_numG (by simp; omega) h1
  obtain ⟨c, lc, ec, rfl⟩ := trod_numG (by simp; omega) h2
  obtain ⟨f, lf, ef, rfl⟩ := trod_numG (by simp; omega) h3
  rw [show (l.drop 0).take 4 = nl a from ea, show (l.drop 4).take 4 = nl b from eb, show (l.drop 8).take 4 = nl c from ec, show (l.drop 12).take 4 = nl f from ef] at e
  simp only [Prod.mk.injEq] at hx
  obtain ⟨rfl, rfl⟩ := hx
  exact ⟨a, b, c, f, la, lb, lc, lf, by rw [e]; rfl, rfl, by simp⟩
set_option maxRecDepth 100000 in
theorem shut_grp {H : Type} {enc : TypeId × Value → H} {W : World} {base : Nat} {sp : Nat → Bool} {held : Bool} (a b c e : Nat) : DataW.Trod enc Try.prog W base sp held 26 (grp a b c e) (grpD a b c e) [] :=
  ⟨3, by
    unfold grp gl grpD numD
    simp [DataW.trod, Value.cells, Try.underlying26, Try.underlying24, Try.underlying22, cells_grp, cells_num, cells_u64, wf_wd, show List.range 4 = [0, 1, 2, 3] from rfl]⟩
end Go.Proofs.Ytgfoeongjhkdmaa
namespace Go.Proofs.Ytgfoeongjhkdmaa
open Go.RowKit
def noDiv (n k : Nat) : Prop := ∀ d, 2 ≤ d → d < k → n % d ≠ 0
def xCk (n : Nat) : Prop := 2 ≤ n ∧ n < 4294967296 ∧ ∀ d, 2 ≤ d → d * d ≤ n → n % d ≠ 0
open Classical in
noncomputable def smallB (n : Nat) : Bool := decide (xCk n)
open Classical in
theorem smallB_no {n : Nat} (h : ¬ xCk n) : smallB n = false := by unfold smallB; exact decide_eq_false h
open Classical in
theorem smallB_yes {n : Nat} (h : xCk n) : smallB n = true := by unfold smallB; exact decide_eq_true h
theorem ret_bool {a b : Bool} (h : a = b) : Ending.returned (.bool a) = .returned (.bool b) := by rw [h]
theorem smallB_lt (n : Nat) (h : n < 2) : smallB n = false := by
  refine smallB_no ?_; unfold xCk; omega
theorem smallB_ge (n : Nat) (h : ¬ n < 4294967296) : smallB n = false := by
  refine smallB_no ?_; unfold xCk; omega
theorem smallB_div (n k : Nat) (hk : 2 ≤ k) (h : k * k ≤ n) (h0 : n % k = 0) : smallB n = false := by
  refine smallB_no ?_; unfold xCk
  rintro ⟨_, _, h3⟩
  exact h3 k hk h h0
theorem smallB_none (n k : Nat) (h2 : ¬ n < 2) (h3 : n < 4294967296) (h : n < k * k) (hno : noDiv n k) : smallB n = true := by
  refine smallB_yes ?_
  refine ⟨by omega, h3, fun d hd hdd => hno d hd ?_⟩
  rcases Nat.lt_or_ge d k with hlt | hge
  · exact hlt
  · have := Nat.mul_le_mul hge hge
    omega
theorem noDiv_two (n : Nat) : noDiv n 2 := fun d h1 h2 => by omega
theorem noDiv_succ (n k : Nat) (h : noDiv n k) (h0 : n % k ≠ 0) : noDiv n (k + 1) := fun d h1 h2 => by
  rcases Nat.lt_or_ge d k with hlt | hge
  · exact h d h1 hlt
  · have : d = k := by omega
    subst this; exact h0
theorem sq_le (n k : Nat) (h3 : n < 4294967296) (h : k * k ≤ n) : k < 65536 := by
  rcases Nat.lt_or_ge k 65536 with hlt | hge
  · exact hlt
  · have := Nat.mul_le_mul hge hge
    omega
theorem le_of_cast {n k : Nat} (h : (k : Int) * k ≤ n) : k * k ≤ n := by
  have : ((k * k : Nat) : Int) ≤ n := by simpa using h
  omega
theorem lt_of_cast {n k : Nat} (h : (n : Int) < (k : Int) * k) : n < k * k := by
  have : (n : Int) < ((k * k : Nat) : Int) := by simpa using h
  omega
theorem mod_zero_of {n k : Nat} (h : ((n : Int) % k == 0) = true) : n % k = 0 := by
  have : (n : Int) % k = 0 := by simpa using h
  omega
theorem mod_ne_of {n k : Nat} (h : ((n : Int) % k == 0) = false) : n % k ≠ 0 := by
  intro h0
  have : (n : Int) % k = 0 := by omega
  simp [this] at h
set_option maxRecDepth 100000 in
set_option maxHeartbeats 400000 in
theorem small_any (n : Nat) (w : World) (hn : n < 18446744073709551616) :
    Calls Try.prog 65 #[.int .u64 n] w fun e w' => e = .returned (.bool (smallB n)) ∧ w = w' := by
  by_cases h2 : n < 2
  · go_enter Try.func65, Try.ntmps65
    go_wp2
    go_step3
    go_wp2
    go_ret
    exact ⟨ret_bool (smallB_lt n h2).symm, rfl⟩
  · by_cases h3 : n < 4294967296
    · have hs : (n : Int) / 4294967296 = 0 := by omega
      go_enter Try.func65, Try.ntmps65
      go_wp2
      go_step3
      go_wp2
      go_step3
      go_wp2
      go_loop [3, 4] (fun i d => ∃ k : Nat, 2 ≤ k ∧ k ≤ 65536 ∧ noDiv n k ∧ d = .int .u64 k ∧ i = .bool true) (fun _ d => 65536 - (intOf d).toNat)
      case atStart => exact ⟨2, by omega, by omega, noDiv_two n, rfl, rfl⟩
      case round =>
        obtain ⟨k, hk2, hk, hno, rfl, rfl⟩ := hrel
        have hkk : (k : Int) * k ≤ 4294967296 := by
          have := Nat.mul_le_mul hk hk
          have h' : ((k * k : Nat) : Int) ≤ 4294967296 := by omega
          simpa using h'
        have hk0 : (0 : Int) ≤ (k : Int) * k := by
          have h' : (0 : Int) ≤ ((k * k : Nat) : Int) := by omega
          simpa using h'
        go_wp2
        · have h1 : (k : Int) * k ≤ n := by assumption
          have h0 : ((n : Int) % k == 0) = true := by assumption
          go_ret
          exact ⟨ret_bool (smallB_div n k hk2 (le_of_cast h1) (mod_zero_of h0)).symm, rfl⟩
        · have h1 : (k : Int) * k ≤ n := by assumption
          have h0 : ((n : Int) % k == 0) = false := by assumption
          have hlt := sq_le n k h3 (le_of_cast h1)
          go_round
          case rel => exact ⟨k + 1, by omega, by omega, noDiv_succ n k hno (mod_ne_of h0), by go_num, rfl⟩
          case measure => simp [intOf]; omega
        · have h1 : (n : Int) < (k : Int) * k := by assumption
          go_ret
          exact ⟨ret_bool (smallB_none n k h2 h3 (lt_of_cast h1) hno).symm, rfl⟩
    · have hs : (n : Int) / 4294967296 > 0 := by omega
      go_enter Try.func65, Try.ntmps65
      go_wp2
      go_step3
      go_wp2
      try rw [Exit.noGoto_ret]
      go_ret
      exact ⟨ret_bool (smallB_ge n h3).symm, rfl⟩
theorem small_lit (n : Nat) (b : Bool) (hn : n < 18446744073709551616) (hb : smallB n = b) (w : World) : Calls Try.prog 65 #[.int .u64 n] w fun e w' => e = .returned (.bool b) ∧ Below w.heap.size w w' :=
  (small_any n w hn).mono fun e w' ⟨h1, h2⟩ => ⟨by rw [h1, hb], by rw [← h2]; exact Below.refl _ _⟩
end Go.Proofs.Ytgfoeongjhkdmaa
namespace Go.Proofs.Ytgfoeongjhkdmaa
open Go.RowKit
end Go.Proofs.Ytgfoeongjhkdmaa
namespace Go.Proofs.Ytgfoeongjhkdmaa
open Go.RowKit
inductive RT where
  | leaf
  | node (n t k : Nat) (p : Nat → RT)
def RT.num : RT → Nat
  | .leaf => 0
  | .node n _ _ _ => n
end Go.Proofs.Ytgfoeongjhkdmaa
