import Derived.Test.YtaaahfjpnggkbaaGreatDoorZM
import Derived.Test.YtaaahfjpnggkbaaGreatDoorZA
import Derived.ChangeArms
import Derived.ChangeSame
import Derived.WalkKit
import Derived.WalkSpells
import Derived.WalkLawsBesides
import Derived.Outline
import Derived.Test.YtaaahfjpnggkbaaGreatDoorZJ
import Derived.Test.YtaaahfjpnggkbaaGreatDoorZD
set_option linter.unusedSimpArgs false
set_option linter.unusedVariables false
set_option maxRecDepth 100000
set_option maxHeartbeats 20000000
namespace Go.Proofs.YtaaahfjpnggkbaaGreatDoor
open Go.RowKit
section
attribute [local irreducible] Calls
noncomputable def gl (p q g h : Nat) : List Value := [.int .u64 (wd p 0), .int .u64 (wd p 1), .int .u64 (wd p 2), .int .u64 (wd p 3), .int .u64 (wd q 0), .int .u64 (wd q 1), .int .u64 (wd q 2), .int .u64 (wd q 3),
 .int .u64 (wd g 0), .int .u64 (wd g 1), .int .u64 (wd g 2), .int .u64 (wd g 3), .int .u64 (wd h 0), .int .u64 (wd h 1), .int .u64 (wd h 2), .int .u64 (wd h 3)]
noncomputable abbrev grp (p q g h : Nat) : Value := .agg (gl p q g h).toArray
instance : RowT Tryz.prog 26 16 := .mk' (by kernel_rfl) (by kernel_rfl)
instance : xDt Tryz.prog 2 := .mk' (by kernel_rfl) (by kernel_rfl)
def gz : List Value := [.int .u64 0, .int .u64 0, .int .u64 0, .int .u64 0, .int .u64 0, .int .u64 0, .int .u64 0, .int .u64 0, .int .u64 0, .int .u64 0, .int .u64 0, .int .u64 0, .int .u64 0, .int .u64 0, .int .u64 0, .int .u64 0]
instance : xJh Tryz.prog 26 gz := ⟨.agg gz.toArray, by kernel_rfl, rfl⟩
theorem wd_zero (i : Nat) : wd 0 i = 0 := by rw [xCv]; simp
theorem gl_p (p q g h : Nat) : ((gl p q g h).drop 0).take 4 = nl p := rfl
theorem gl_q (p q g h : Nat) : ((gl p q g h).drop 4).take 4 = nl q := rfl
section
variable {p q g h a b r : Nat} {e : Int}
theorem sadd_lit (ha : a < B) (hb : b < B) (hq : q < B) (hr : (if okM a b q then (a + b) % q else 0) = r) (he : (if okM a b q then (0 : Int) else 1) = e) (w : World) : Calls Tryz.prog 125 #[grp p q g h, num a, num b] w fun e' w' =>
  e' = .returned (.tuple #[num r, .int .i64 e]) ∧ Below w.heap.size w w' := by
 have c1 := madd_lit ha hb hq hr he
 have tq := gl_q p q g h
 clear hr he
 have hR := Rep.init w
 go_enter Tryz.func125, Tryz.ntmps125
 go_wp2_with (first | (refine' aAq hR ?_; clear hR; intro blk w hR) | (refine' aBq hR ?_; clear hR; intro blk w hR) | (refine' aPq hR ?_) | (refine' aQq hR ?_) | (refine' aRq hR ?_) | (refine' aFq hR ?_; clear hR; intro w hR) | (refine' aGq hR ?_; clear hR; intro w hR) | (go_at_call 173; refine (c1 _).mono ?_; rintro e w ⟨rfl, hb⟩; replace hR := hR.call hb; clear hb))
 (refine' bodyPost_ret (xAu Tryz.results125 rfl (hR.loadAll (P := Tryz.prog) (ty := 24) ?hm ?hn)) rfl ⟨?_, hR.below⟩; (case hm => first | with_reducible assumption | repeat (first | exact .head _ | with_reducible assumption | apply mC)); (case hn => first | rfl | simp))
 rfl
theorem smul_lit (ha : a < B) (hb : b < B) (hq : q < B) (hr : (if okM a b q then mulN a b q else 0) = r) (he : (if okM a b q then (0 : Int) else 1) = e) (w : World) : Calls Tryz.prog 105 #[grp p q g h, num a, num b] w fun e' w' =>
  e' = .returned (.tuple #[num r, .int .i64 e]) ∧ Below w.heap.size w w' := by
 have c1 := mmul_lit ha hb hq hr he
 have tq := gl_q p q g h
 clear hr he
 have hR := Rep.init w
 go_enter Tryz.func105, Tryz.ntmps105
 go_wp2_with (first | (refine' aAq hR ?_; clear hR; intro blk w hR) | (refine' aBq hR ?_; clear hR; intro blk w hR) | (refine' aPq hR ?_) | (refine' aQq hR ?_) | (refine' aRq hR ?_) | (refine' aFq hR ?_; clear hR; intro w hR) | (refine' aGq hR ?_; clear hR; intro w hR) | (go_at_call 177; refine (c1 _).mono ?_; rintro e w ⟨rfl, hb⟩; replace hR := hR.call hb; clear hb))
 (refine' bodyPost_ret (xAu Tryz.results105 rfl (hR.loadAll (P := Tryz.prog) (ty := 24) ?hm ?hn)) rfl ⟨?_, hR.below⟩; (case hm => first | with_reducible assumption | repeat (first | exact .head _ | with_reducible assumption | apply mC)); (case hn => first | rfl | simp))
 rfl
theorem sinv_lit (ha : a < B) (hq : q < B) (hr : (if okE a q then invM a q else 0) = r) (he : invE a q = e) (w : World) : Calls Tryz.prog 106 #[grp p q g h, num a] w fun e' w' =>
  e' = .returned (.tuple #[num r, .int .i64 e]) ∧ Below w.heap.size w w' := by
 have c1 := minv_lit ha hq hr he
 have tq := gl_q p q g h
 clear hr he
 have hR := Rep.init w
 go_enter Tryz.func106, Tryz.ntmps106
 go_wp2_with (first | (refine' aAq hR ?_; clear hR; intro blk w hR) | (refine' aBq hR ?_; clear hR; intro blk w hR) | (refine' aPq hR ?_) | (refine' aQq hR ?_) | (refine' aRq hR ?_) | (refine' aFq hR ?_; clear hR; intro w hR) | (refine' aGq hR ?_; clear hR; intro w hR) | (go_at_call 178; refine (c1 _).mono ?_; rintro e w ⟨rfl, hb⟩; replace hR := hR.call hb; clear hb))
 (refine' bodyPost_ret (xAu Tryz.results106 rfl (hR.loadAll (P := Tryz.prog) (ty := 24) ?hm ?hn)) rfl ⟨?_, hR.below⟩; (case hm => first | with_reducible assumption | repeat (first | exact .head _ | with_reducible assumption | apply mC)); (case hn => first | rfl | simp))
 rfl
end
theorem amount_any (n : Int) (h0 : -9223372036854775808 ≤ n) (h1 : n < 9223372036854775808) (w : World) : Calls Tryz.prog 170 #[.int .i64 n] w fun e w' =>
  e = .returned (.tuple #[.int .u64 (n.natAbs : Int), .int .i64 (if n < 0 then 1 else 0)]) ∧ Below w.heap.size w w' := by
 have hR := Rep.init w
 by_cases hn : n < 0
 ·rw [if_pos hn]
  have e1 : IntKind.u64.wrap (-IntKind.u64.wrap n) = (n.natAbs : Int) := by
   rw [IntKind.wrap_u64, IntKind.wrap_u64]; omega
  obtain ⟨M, hM⟩ : ∃ M : Int, (n.natAbs : Int) = M := ⟨_, rfl⟩
  rw [hM] at e1 ⊢
  clear h0 h1 hM
  go_enter Tryz.func170, Tryz.ntmps170
  go_wp2_with (first | (refine' aAq hR ?_; clear hR; intro blk w hR) | (refine' aBq hR ?_; clear hR; intro blk w hR) | (refine' aPq hR ?_) | (refine' aQq hR ?_) | (refine' aRq hR ?_) | (refine' aFq hR ?_; clear hR; intro w hR) | (refine' aGq hR ?_; clear hR; intro w hR) | fail)
  go_ret2
  exact ⟨rfl, hR.below⟩
 ·rw [if_neg hn]
  have hn' : 0 ≤ n := by omega
  have e1 : IntKind.u64.wrap n = (n.natAbs : Int) := by
   rw [IntKind.wrap_u64]; omega
  go_enter Tryz.func170, Tryz.ntmps170
  go_wp2_with (first | (refine' aAq hR ?_; clear hR; intro blk w hR) | (refine' aBq hR ?_; clear hR; intro blk w hR) | (refine' aPq hR ?_) | (refine' aQq hR ?_) | (refine' aRq hR ?_) | (refine' aFq hR ?_; clear hR; intro w hR) | (refine' aGq hR ?_; clear hR; intro w hR) | fail)
  go_ret2
  exact ⟨rfl, hR.below⟩
end
section
open Go.ChangeShapes Go.WideShapes Go.ChangeAt Go.RowKit
noncomputable def grpD {H : Type} (a b c d : Nat) : DataW H := .agg [numD a, numD b, numD c, numD d]
theorem list4' {α : Type} (l : List α) (h : l.length = 4) : ∃ a b c d, l = [a, b, c, d] := by
 match l, h with
 | [a, b, c, d], _ => exact ⟨a, b, c, d, rfl⟩
theorem xGh {H : Type} {enc : TypeId × Value → H} {W : World} {base fuel : Nat} {sp : Nat → Bool} {held : Bool} {cs : List Value} {y : DataW H × List MemPlace} (hl : cs.length = 4) (hf : DataW.trod enc Tryz.prog W base sp held fuel 24 cs = some y) :
  ∃ a, a < B ∧ cs = nl a ∧ y = (numD a, []) := by
 obtain ⟨c0, c1, c2, c3, rfl⟩ := list4' cs hl
 obtain ⟨y0, y1, y2, y3, m, hx, hy0, hy1, hy2, hy3⟩ := trod_array4 Tryz.underlying24 cells_u64 hf
 obtain ⟨x0, e0, rfl, w0⟩ := DataW.trod_int Tryz.underlying22 hy0
 obtain ⟨x1, e1, rfl, w1⟩ := DataW.trod_int Tryz.underlying22 hy1
 obtain ⟨x2, e2, rfl, w2⟩ := DataW.trod_int Tryz.underlying22 hy2
 obtain ⟨x3, e3, rfl, w3⟩ := DataW.trod_int Tryz.underlying22 hy3
 simp at e0 e1 e2 e3
 subst e0 e1 e2 e3
 subst hx
 obtain ⟨n0, rfl⟩ := Int.eq_ofNat_of_zero_le (wf_u64 w0).1
 obtain ⟨n1, rfl⟩ := Int.eq_ofNat_of_zero_le (wf_u64 w1).1
 obtain ⟨n2, rfl⟩ := Int.eq_ofNat_of_zero_le (wf_u64 w2).1
 obtain ⟨n3, rfl⟩ := Int.eq_ofNat_of_zero_le (wf_u64 w3).1
 have b0 := (wf_u64 w0).2
 have b1 := (wf_u64 w1).2
 have b2 := (wf_u64 w2).2
 have b3 := (wf_u64 w3).2
 have e := nl_ofW n0 n1 n2 n3 (by omega) (by omega) (by omega) (by omega)
 refine ⟨ofW n0 n1 n2 n3, ofW_lt _ _ _ _ (by omega) (by omega) (by omega) (by omega), e.symm, ?_⟩
 unfold nl at e
 simp only [List.cons.injEq, Value.int.injEq, true_and, and_true] at e
 obtain ⟨k0, k1, k2, k3⟩ := e
 unfold numD
 rw [k0, k1, k2, k3]
 simp
theorem split4 (l : List Value) (hl : l.length = 16) : l = (l.drop 0).take 4 ++ ((l.drop 4).take 4 ++ ((l.drop 8).take 4 ++ (l.drop 12).take 4)) := by
 have t3 : (l.drop 12).take 4 = l.drop 12 := List.take_of_length_le (by simp; omega)
 have t2 : l.drop 8 = (l.drop 8).take 4 ++ (l.drop 8).drop 4 := (List.take_append_drop 4 (l.drop 8)).symm
 have t1 : l.drop 4 = (l.drop 4).take 4 ++ (l.drop 4).drop 4 := (List.take_append_drop 4 (l.drop 4)).symm
 rw [List.drop_drop] at t1 t2
 rw [t3, ← t2, ← t1, List.drop_zero, List.take_append_drop]
theorem cells_grp : Tryz.prog.cellsOf 26 = 16 := by kernel_rfl
theorem open_grp {H : Type} {enc : TypeId × Value → H} {W : World} {base b0 : Nat} {r : Reach} {sp : Nat → Bool} {held : Bool} {v : Value} {d : DataW H} {ps : List MemPlace} (hval : Value.okWide Tryz.prog W r b0 26 v) (hd : DataW.Trod enc Tryz.prog W base sp held 26 v d ps) :
  ∃ a b c e, a < B ∧ b < B ∧ c < B ∧ e < B ∧ v = grp a b c e ∧ d = grpD a b c e ∧ ps = [] := by
 obtain ⟨cs, rfl, hsz, _⟩ : ∃ cs, v = .agg cs ∧ cs.size = Tryz.prog.cellsOf 26 ∧ Row.okWide Tryz.prog W r b0 26 cs := by
  simpa [Value.okWide, Tryz.underlying26] using hval
 rw [cells_grp] at hsz
 obtain ⟨l⟩ := cs
 have hl : l.length = 16 := by simpa using hsz
 obtain ⟨fuel, hf⟩ := hd
 change DataW.trod enc Tryz.prog W base sp held fuel 26 l = some (d, ps) at hf
 obtain ⟨xs, m, _, hx, _, hn, hi⟩ := DataW.trod_struct Tryz.underlying26 hf
 obtain ⟨x0, x1, x2, x3, rfl⟩ := list4' xs hn
 have h0 := hi 0 _ rfl
 have h1 := hi 1 _ rfl
 have h2 := hi 2 _ rfl
 have h3 := hi 3 _ rfl
 change DataW.trod enc Tryz.prog W base sp held m 24 ((l.drop 0).take (Tryz.prog.cellsOf 24)) = some x0 at h0
 change DataW.trod enc Tryz.prog W base sp held m 24 ((l.drop 4).take (Tryz.prog.cellsOf 24)) = some x1 at h1
 change DataW.trod enc Tryz.prog W base sp held m 24 ((l.drop 8).take (Tryz.prog.cellsOf 24)) = some x2 at h2
 change DataW.trod enc Tryz.prog W base sp held m 24 ((l.drop 12).take (Tryz.prog.cellsOf 24)) = some x3 at h3
 rw [cells_num] at h0 h1 h2 h3
 have e := split4 l hl
 obtain ⟨a, la, ea, rfl⟩ := xGh (by simp; omega) h0
 obtain ⟨b, lb, eb, rfl⟩ := xGh (by simp; omega) h1
 obtain ⟨c, lc, ec, rfl⟩ := xGh (by simp; omega) h2
 obtain ⟨f, lf, ef, rfl⟩ := xGh (by simp; omega) h3
 rw [show (l.drop 0).take 4 = nl a from ea, show (l.drop 4).take 4 = nl b from eb, show (l.drop 8).take 4 = nl c from ec, show (l.drop 12).take 4 = nl f from ef] at e
 simp only [Prod.mk.injEq] at hx
 obtain ⟨rfl, rfl⟩ := hx
 exact ⟨a, b, c, f, la, lb, lc, lf, by rw [e]; rfl, rfl, by simp⟩
theorem shut_grp {H : Type} {enc : TypeId × Value → H} {W : World} {base : Nat} {sp : Nat → Bool} {held : Bool} (a b c e : Nat) : DataW.Trod enc Tryz.prog W base sp held 26 (grp a b c e) (grpD a b c e) [] :=
 ⟨3, by
  unfold grp gl grpD numD
  simp [DataW.trod, Value.cells, Tryz.underlying26, Tryz.underlying24, Tryz.underlying22, cells_grp, cells_num, cells_u64, wf_wd, show List.range 4 = [0, 1, 2, 3] from rfl]⟩
end
section
end
section
end
section
inductive RT where
 | leaf
 | node (n t k : Nat) (p : Nat → RT)
def RT.num : RT → Nat
 | .leaf => 0
 | .node n _ _ _ => n
end
end Go.Proofs.YtaaahfjpnggkbaaGreatDoor
