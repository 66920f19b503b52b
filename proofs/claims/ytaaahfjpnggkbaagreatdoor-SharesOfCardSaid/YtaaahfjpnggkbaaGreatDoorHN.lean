import Derived.Test.YtaaahfjpnggkbaaGreatDoorHM
import Derived.Test.YtaaahfjpnggkbaaGreatDoorHA
import Derived.ChangeArms
import Derived.ChangeSame
import Derived.OrdersIn
import Derived.RegionIn
import Derived.WalkKit
import Derived.WalkSpells
import Derived.WalkLawsBesides
import Derived.Outline
import Derived.Test.YtaaahfjpnggkbaaGreatDoorHJ
import Derived.Test.YtaaahfjpnggkbaaGreatDoorHD
set_option linter.unusedSimpArgs false
set_option linter.unusedVariables false
set_option maxRecDepth 100000
set_option maxHeartbeats 20000000
namespace Go.Proofs.YtaaahfjpnggkbaaGreatDoor
open Go.RowKit
section
attribute [local irreducible] Calls
noncomputable def gl (p q g h : Nat) : List Value := [.int .u64 (wd p 0), .int .u64 (wd p 1), .int .u64 (wd p 2), .int .u64 (wd p 3), .int .u64 (wd q 0), .int .u64 (wd q 1), .int .u64 (wd q 2), .int .u64 (wd q 3),
 .int .u64 (wd g 0), .int .u64 (wd g 1), .int .u64 (wd g 2), .int .u64 (wd g 3), .int .u64 (wd h 0), .int .u64 (wd h 1), .int .u64 (wd h 2), .int .u64 (wd h 3)]
noncomputable abbrev grp (p q g h : Nat) : Value := .agg (gl p q g h).toArray
instance : RowT Tryz.prog 26 16 := .mk' (by kernel_rfl) (by kernel_rfl)
instance : xDp Tryz.prog 2 := .mk' (by kernel_rfl) (by kernel_rfl)
def gz : List Value := [.int .u64 0, .int .u64 0, .int .u64 0, .int .u64 0, .int .u64 0, .int .u64 0, .int .u64 0, .int .u64 0, .int .u64 0, .int .u64 0, .int .u64 0, .int .u64 0, .int .u64 0, .int .u64 0, .int .u64 0, .int .u64 0]
instance : xKf Tryz.prog 26 gz := ⟨.agg gz.toArray, by kernel_rfl, rfl⟩
theorem wd_zero (i : Nat) : wd 0 i = 0 := by rw [xDe]; simp
theorem gl_p (p q g h : Nat) : ((gl p q g h).drop 0).take 4 = nl p := rfl
theorem gl_q (p q g h : Nat) : ((gl p q g h).drop 4).take 4 = nl q := rfl
section
variable {p q g h a b r : Nat} {e : Int}
theorem sadd_lit (ha : a < B) (hb : b < B) (hq : q < B) (hr : (if okM a b q then (a + b) % q else 0) = r) (he : (if okM a b q then (0 : Int) else 1) = e) (w : World) : Calls Tryz.prog 125 #[grp p q g h, num a, num b] w fun e' w' =>
  e' = .returned (.tuple #[num r, .int .i64 e]) ∧ Below w.heap.size w w' := by
 have c1 := madd_lit ha hb hq hr he
 have tq := gl_q p q g h
 clear hr he
 have hR := Rep.init w
 go_enter Tryz.func125, Tryz.ntmps125
 go_wp2_with (first | (refine' aAq hR ?_; clear hR; intro blk w hR) | (refine' aBq hR ?_; clear hR; intro blk w hR) | (refine' aNq hR ?_) | (refine' aPq hR ?_) | (refine' aFq hR ?_; clear hR; intro w hR) | (go_at_call 173; refine (c1 _).mono ?_; rintro e w ⟨rfl, hb⟩; replace hR := hR.call hb; clear hb))
 (refine' bodyPost_ret (xAh Tryz.results125 rfl (hR.loadAll (P := Tryz.prog) (ty := 24) ?hm ?hn)) rfl ⟨?_, hR.below⟩; (case hm => first | with_reducible assumption | repeat (first | exact .head _ | with_reducible assumption | apply mC)); (case hn => first | rfl | simp))
 rfl
theorem ssub_lit (ha : a < B) (hb : b < B) (hq : q < B) (hr : (if okM a b q then subN a b q else 0) = r) (he : (if okM a b q then (0 : Int) else 1) = e) (w : World) : Calls Tryz.prog 193 #[grp p q g h, num a, num b] w fun e' w' =>
  e' = .returned (.tuple #[num r, .int .i64 e]) ∧ Below w.heap.size w w' := by
 have c1 := msub_lit ha hb hq hr he
 have tq := gl_q p q g h
 clear hr he
 have hR := Rep.init w
 go_enter Tryz.func193, Tryz.ntmps193
 go_wp2_with (first | (refine' aAq hR ?_; clear hR; intro blk w hR) | (refine' aBq hR ?_; clear hR; intro blk w hR) | (refine' aNq hR ?_) | (refine' aPq hR ?_) | (refine' aFq hR ?_; clear hR; intro w hR) | (go_at_call 175; refine (c1 _).mono ?_; rintro e w ⟨rfl, hb⟩; replace hR := hR.call hb; clear hb))
 (refine' bodyPost_ret (xAh Tryz.results193 rfl (hR.loadAll (P := Tryz.prog) (ty := 24) ?hm ?hn)) rfl ⟨?_, hR.below⟩; (case hm => first | with_reducible assumption | repeat (first | exact .head _ | with_reducible assumption | apply mC)); (case hn => first | rfl | simp))
 rfl
theorem smul_lit (ha : a < B) (hb : b < B) (hq : q < B) (hr : (if okM a b q then mulN a b q else 0) = r) (he : (if okM a b q then (0 : Int) else 1) = e) (w : World) : Calls Tryz.prog 105 #[grp p q g h, num a, num b] w fun e' w' =>
  e' = .returned (.tuple #[num r, .int .i64 e]) ∧ Below w.heap.size w w' := by
 have c1 := mmul_lit ha hb hq hr he
 have tq := gl_q p q g h
 clear hr he
 have hR := Rep.init w
 go_enter Tryz.func105, Tryz.ntmps105
 go_wp2_with (first | (refine' aAq hR ?_; clear hR; intro blk w hR) | (refine' aBq hR ?_; clear hR; intro blk w hR) | (refine' aNq hR ?_) | (refine' aPq hR ?_) | (refine' aFq hR ?_; clear hR; intro w hR) | (go_at_call 177; refine (c1 _).mono ?_; rintro e w ⟨rfl, hb⟩; replace hR := hR.call hb; clear hb))
 (refine' bodyPost_ret (xAh Tryz.results105 rfl (hR.loadAll (P := Tryz.prog) (ty := 24) ?hm ?hn)) rfl ⟨?_, hR.below⟩; (case hm => first | with_reducible assumption | repeat (first | exact .head _ | with_reducible assumption | apply mC)); (case hn => first | rfl | simp))
 rfl
theorem sinv_lit (ha : a < B) (hq : q < B) (hr : (if okE a q then invM a q else 0) = r) (he : invE a q = e) (w : World) : Calls Tryz.prog 106 #[grp p q g h, num a] w fun e' w' =>
  e' = .returned (.tuple #[num r, .int .i64 e]) ∧ Below w.heap.size w w' := by
 have c1 := minv_lit ha hq hr he
 have tq := gl_q p q g h
 clear hr he
 have hR := Rep.init w
 go_enter Tryz.func106, Tryz.ntmps106
 go_wp2_with (first | (refine' aAq hR ?_; clear hR; intro blk w hR) | (refine' aBq hR ?_; clear hR; intro blk w hR) | (refine' aNq hR ?_) | (refine' aPq hR ?_) | (refine' aFq hR ?_; clear hR; intro w hR) | (go_at_call 178; refine (c1 _).mono ?_; rintro e w ⟨rfl, hb⟩; replace hR := hR.call hb; clear hb))
 (refine' bodyPost_ret (xAh Tryz.results106 rfl (hR.loadAll (P := Tryz.prog) (ty := 24) ?hm ?hn)) rfl ⟨?_, hR.below⟩; (case hm => first | with_reducible assumption | repeat (first | exact .head _ | with_reducible assumption | apply mC)); (case hn => first | rfl | simp))
 rfl
end
theorem amount_any (n : Int) (h0 : -9223372036854775808 ≤ n) (h1 : n < 9223372036854775808) (w : World) : Calls Tryz.prog 170 #[.int .i64 n] w fun e w' =>
  e = .returned (.tuple #[.int .u64 (n.natAbs : Int), .int .i64 (if n < 0 then 1 else 0)]) ∧ Below w.heap.size w w' := by
 have hR := Rep.init w
 by_cases hn : n < 0
 ·rw [if_pos hn]
  have e1 : IntKind.u64.wrap (-IntKind.u64.wrap n) = (n.natAbs : Int) := by
   rw [IntKind.wrap_u64, IntKind.wrap_u64]; omega
  obtain ⟨M, hM⟩ : ∃ M : Int, (n.natAbs : Int) = M := ⟨_, rfl⟩
  rw [hM] at e1 ⊢
  clear h0 h1 hM
  go_enter Tryz.func170, Tryz.ntmps170
  go_wp2_with (fail)
  go_ret2
  exact ⟨rfl, hR.below⟩
 ·rw [if_neg hn]
  have hn' : 0 ≤ n := by omega
  have e1 : IntKind.u64.wrap n = (n.natAbs : Int) := by
   rw [IntKind.wrap_u64]; omega
  go_enter Tryz.func170, Tryz.ntmps170
  go_wp2_with (fail)
  go_ret2
  exact ⟨rfl, hR.below⟩
end
section
open Go.ChangeShapes Go.WideShapes Go.ChangeAt Go.RowKit
noncomputable def grpD {H : Type} (a b c d : Nat) : DataW H := .agg [numD a, numD b, numD c, numD d]
theorem list4' {α : Type} (l : List α) (h : l.length = 4) : ∃ a b c d, l = [a, b, c, d] := by
 match l, h with
 | [a, b, c, d], _ => exact ⟨a, b, c, d, rfl⟩
theorem xGl {H : Type} {enc : TypeId × Value → H} {W : World} {base fuel : Nat} {sp : Nat → Bool} {held : Bool} {cs : List Value} {y : DataW H × List MemPlace} (hl : cs.length = 4) (hf : DataW.trod enc Tryz.prog W base sp held fuel 24 cs = some y) :
  ∃ a, a < B ∧ cs = nl a ∧ y = (numD a, []) := by
 obtain ⟨c0, c1, c2, c3, rfl⟩ := list4' cs hl
 obtain ⟨y0, y1, y2, y3, m, hx, hy0, hy1, hy2, hy3⟩ := trod_array4 Tryz.underlying24 cells_u64 hf
 obtain ⟨x0, e0, rfl, w0⟩ := DataW.trod_int Tryz.underlying22 hy0
 obtain ⟨x1, e1, rfl, w1⟩ := DataW.trod_int Tryz.underlying22 hy1
 obtain ⟨x2, e2, rfl, w2⟩ := DataW.trod_int Tryz.underlying22 hy2
 obtain ⟨x3, e3, rfl, w3⟩ := DataW.trod_int Tryz.underlying22 hy3
 simp at e0 e1 e2 e3
 subst e0 e1 e2 e3
 subst hx
 obtain ⟨n0, rfl⟩ := Int.eq_ofNat_of_zero_le (wf_u64 w0).1
 obtain ⟨n1, rfl⟩ := Int.eq_ofNat_of_zero_le (wf_u64 w1).1
 obtain ⟨n2, rfl⟩ := Int.eq_ofNat_of_zero_le (wf_u64 w2).1
 obtain ⟨n3, rfl⟩ := Int.eq_ofNat_of_zero_le (wf_u64 w3).1
 have b0 := (wf_u64 w0).2
 have b1 := (wf_u64 w1).2
 have b2 := (wf_u64 w2).2
 have b3 := (wf_u64 w3).2
 have e := nl_ofW n0 n1 n2 n3 (by omega) (by omega) (by omega) (by omega)
 refine ⟨ofW n0 n1 n2 n3, ofW_lt _ _ _ _ (by omega) (by omega) (by omega) (by omega), e.symm, ?_⟩
 unfold nl at e
 simp only [List.cons.injEq, Value.int.injEq, true_and, and_true] at e
 obtain ⟨k0, k1, k2, k3⟩ := e
 unfold numD
 rw [k0, k1, k2, k3]
 simp
theorem split4 (l : List Value) (hl : l.length = 16) : l = (l.drop 0).take 4 ++ ((l.drop 4).take 4 ++ ((l.drop 8).take 4 ++ (l.drop 12).take 4)) := by
 have t3 : (l.drop 12).take 4 = l.drop 12 := List.take_of_length_le (by simp; omega)
 have t2 : l.drop 8 = (l.drop 8).take 4 ++ (l.drop 8).drop 4 := (List.take_append_drop 4 (l.drop 8)).symm
 have t1 : l.drop 4 = (l.drop 4).take 4 ++ (l.drop 4).drop 4 := (List.take_append_drop 4 (l.drop 4)).symm
 rw [List.drop_drop] at t1 t2
 rw [t3, ← t2, ← t1, List.drop_zero, List.take_append_drop]
theorem cells_grp : Tryz.prog.cellsOf 26 = 16 := by kernel_rfl
theorem open_grp {H : Type} {enc : TypeId × Value → H} {W : World} {base b0 : Nat} {r : Reach} {sp : Nat → Bool} {held : Bool} {v : Value} {d : DataW H} {ps : List MemPlace} (hval : Value.okWide Tryz.prog W r b0 26 v) (hd : DataW.Trod enc Tryz.prog W base sp held 26 v d ps) :
  ∃ a b c e, a < B ∧ b < B ∧ c < B ∧ e < B ∧ v = grp a b c e ∧ d = grpD a b c e ∧ ps = [] := by
 obtain ⟨cs, rfl, hsz, _⟩ : ∃ cs, v = .agg cs ∧ cs.size = Tryz.prog.cellsOf 26 ∧ Row.okWide Tryz.prog W r b0 26 cs := by
  simpa [Value.okWide, Tryz.underlying26] using hval
 rw [cells_grp] at hsz
 obtain ⟨l⟩ := cs
 have hl : l.length = 16 := by simpa using hsz
 obtain ⟨fuel, hf⟩ := hd
 change DataW.trod enc Tryz.prog W base sp held fuel 26 l = some (d, ps) at hf
 obtain ⟨xs, m, _, hx, _, hn, hi⟩ := DataW.trod_struct Tryz.underlying26 hf
 obtain ⟨x0, x1, x2, x3, rfl⟩ := list4' xs hn
 have h0 := hi 0 _ rfl
 have h1 := hi 1 _ rfl
 have h2 := hi 2 _ rfl
 have h3 := hi 3 _ rfl
 change DataW.trod enc Tryz.prog W base sp held m 24 ((l.drop 0).take (Tryz.prog.cellsOf 24)) = some x0 at h0
 change DataW.trod enc Tryz.prog W base sp held m 24 ((l.drop 4).take (Tryz.prog.cellsOf 24)) = some x1 at h1
 change DataW.trod enc Tryz.prog W base sp held m 24 ((l.drop 8).take (Tryz.prog.cellsOf 24)) = some x2 at h2
 change DataW.trod enc Tryz.prog W base sp held m 24 ((l.drop 12).take (Tryz.prog.cellsOf 24)) = some x3 at h3
 rw [cells_num] at h0 h1 h2 h3
 have e := split4 l hl
 obtain ⟨a, la, ea, rfl⟩ := xGl (by simp; omega) h0
 obtain ⟨b, lb, eb, rfl⟩ := xGl (by simp; omega) h1
 obtain ⟨c, lc, ec, rfl⟩ := xGl (by simp; omega) h2
 obtain ⟨f, lf, ef, rfl⟩ := xGl (by simp; omega) h3
 rw [show (l.drop 0).take 4 = nl a from ea, show (l.drop 4).take 4 = nl b from eb, show (l.drop 8).take 4 = nl c from ec, show (l.drop 12).take 4 = nl f from ef] at e
 simp only [Prod.mk.injEq] at hx
 obtain ⟨rfl, rfl⟩ := hx
 exact ⟨a, b, c, f, la, lb, lc, lf, by rw [e]; rfl, rfl, by simp⟩
theorem shut_grp {H : Type} {enc : TypeId × Value → H} {W : World} {base : Nat} {sp : Nat → Bool} {held : Bool} (a b c e : Nat) : DataW.Trod enc Tryz.prog W base sp held 26 (grp a b c e) (grpD a b c e) [] :=
 ⟨3, by
  unfold grp gl grpD numD
  simp [DataW.trod, Value.cells, Tryz.underlying26, Tryz.underlying24, Tryz.underlying22, cells_grp, cells_num, cells_u64, wf_wd, show List.range 4 = [0, 1, 2, 3] from rfl]⟩
end
section
attribute [local irreducible] Calls
def mayG (p a : Nat) : Prop := 1 < p ∧ a ≠ 0 ∧ a < p
instance (p a : Nat) : Decidable (mayG p a) := by unfold mayG; infer_instance
theorem z_num : num 0 = Value.agg #[.int .u64 0, .int .u64 0, .int .u64 0, .int .u64 0] := xBe.symm
section
variable {p q g h a b r : Nat} {e : Int} {s : Bool}
theorem may_lit (hp : p < B) (ha : a < B) (hs : decide (mayG p a) = s) (w : World) : Calls Tryz.prog 181 #[grp p q g h, num a] w fun e' w' =>
  e' = .returned (.bool s) ∧ Below w.heap.size w w' := by
 have tp := gl_p p q g h
 obtain ⟨n0, h0⟩ : ∃ n, n = 0 := ⟨_, rfl⟩
 obtain ⟨n1, h1⟩ : ∃ n, n = 1 := ⟨_, rfl⟩
 have o0 : ∀ w, Calls Tryz.prog 171 #[.int .u64 0] w fun e w' => e = .returned (num n0) ∧ Below w.heap.size w w' := fun w => by
  rw [h0]; exact xFh 0 (by decide) w
 have o1 : ∀ w, Calls Tryz.prog 171 #[.int .u64 1] w fun e w' => e = .returned (num n1) ∧ Below w.heap.size w w' := fun w => by
  rw [h1]; exact xFh 1 (by decide) w
 have L0 : n0 < B := lt_B (by omega)
 have L1 : n1 < B := lt_B (by omega)
 have c1 := xDg hp L1 rfl
 have c2 := xDg ha hp rfl
 have k1 := cmpN_gt p n1
 have k2 := cmpN_lt a p
 have hc : (decide (0 < cmpN p n1) = false ∧ s = false) ∨ (decide (0 < cmpN p n1) = true ∧ eqN a n0 = true ∧ s = false) ∨ (decide (0 < cmpN p n1) = true ∧ eqN a n0 = false ∧ decide (cmpN a p < 0) = false ∧ s = false) ∨ (decide (0 < cmpN p n1) = true ∧ eqN a n0 = false ∧ decide (cmpN a p < 0) = true ∧ s = true) := by
  by_cases x1 : 1 < p
  ·by_cases x2 : a = 0
   ·exact .inr (.inl ⟨decide_eq_true (k1.mpr (by omega)), xFw (by omega), by rw [← hs]; exact decide_eq_false fun h => h.2.1 x2⟩)
   ·by_cases x3 : a < p
    ·exact .inr (.inr (.inr ⟨decide_eq_true (k1.mpr (by omega)), xDq ha L0 (by omega), decide_eq_true (k2.mpr x3), by rw [← hs]; exact decide_eq_true ⟨x1, x2, x3⟩⟩))
    ·exact .inr (.inr (.inl ⟨decide_eq_true (k1.mpr (by omega)), xDq ha L0 (by omega), decide_eq_false (fun h => x3 (k2.mp h)), by rw [← hs]; exact decide_eq_false fun h => x3 h.2.2⟩))
  ·exact .inl ⟨decide_eq_false (fun h => x1 (by have := k1.mp h; omega)), by rw [← hs]; exact decide_eq_false fun h => x1 h.1⟩
 generalize cmpN p n1 = x1 at *
 generalize cmpN a p = x2 at *
 clear hs k1 k2 h0 h1 L0 L1
 have hR := Rep.init w
 rcases hc with ⟨j1, rfl⟩ | ⟨j1, j2, rfl⟩ | ⟨j1, j2, j3, rfl⟩ | ⟨j1, j2, j3, rfl⟩
 all_goals
  go_enter Tryz.func181, Tryz.ntmps181
  go_wp2_with (refine' aAq hR ?_; clear hR; intro blk w hR)
  refine xAd hR [0, 0, 0, 0, 0, 0, 0, 0, 0, 0, 0, 0, 0, 0, 0, 0, 0, 2] [] xBd (by kernel_rfl) rfl rfl (fun K hK => ?_)
  clear hR
  repeat ((first | (refine xAp ?_) | (refine' xAj (by decide) rfl (.inl rfl) rfl ?ha ?_) | (refine' aIq ?ha ?_) | (refine' aLq ?ha ?_) | ((first | refine' xAm (by decide) rfl rfl rfl rfl (fun w => ?hq) ?ha ?_ | refine' xAl (by decide) rfl rfl rfl (fun w => ?hq) ?ha ?_); (case hq => go_simp; try rfl)) | (refine' xBh (by decide) rfl rfl rfl rfl ?ha ?_) | (refine' xCe (by decide) rfl ?ha ?_) | (refine' xAk rfl rfl rfl (xAi Tryz.func171 (by kernel_rfl) (by kernel_rfl) _) (fun w => o0 w) ?ha ?_) | (refine' xAk rfl rfl rfl (xAi Tryz.func171 (by kernel_rfl) (by kernel_rfl) _) (fun w => o1 w) ?ha ?_) | (refine' xAk rfl rfl rfl (xAi Tryz.func183 (by kernel_rfl) (by kernel_rfl) _) (fun w => c1 w) ?ha ?_) | (refine' xAk rfl rfl rfl (xAi Tryz.func183 (by kernel_rfl) (by kernel_rfl) _) (fun w => c2 w) ?ha ?_)); try (case ha => simp only [kP, kQ, kA, kB]; try rfl))
  refine xAo (hK _ _ ?_)
  clear hK K
  refine xAr (fun Q hQ => ?_)
  try simp only [List.nil_append, List.cons_append]
  repeat ((refine' xBf rfl (.inr rfl) rfl ?hk ?ha ?_); (case hk => intro p hp; first | exact absurd hp List.not_mem_nil | (obtain rfl := List.mem_singleton.1 hp; repeat (first | exact List.Mem.head _ | apply mT))); (case ha => simp only [kP, kQ, kA, kB]; try rfl))
  refine xAs (fun w hR => hQ _ _ ?_)
  clear hQ Q
  go_wp2_with (fail)
  go_ret
  exact ⟨rfl, hR.below⟩
theorem gexp_lit {n : Nat} (hp : p < B) (ha : a < B) (hn : n < B) (hr : (if mayG p a then powN a n p else 0) = r) (he : (if mayG p a then (0 : Int) else 1) = e) (w : World) : Calls Tryz.prog 110 #[grp p q g h, num a, num n] w fun e' w' =>
  e' = .returned (.tuple #[num r, .int .i64 e]) ∧ Below w.heap.size w w' := by
 have tp := gl_p p q g h
 by_cases ok : mayG p a
 ·rw [if_pos ok] at hr he
  have m1 := may_lit (q := q) (g := g) (h := h) hp ha (decide_eq_true ok)
  have x1 := mexp_lit (r := r) (e := e) ha hn hp (by rw [if_pos ⟨ok.1, ok.2.2⟩]; exact hr) (by rw [if_pos ⟨ok.1, ok.2.2⟩]; exact he)
  clear ok hr he
  have hR := Rep.init w
  go_enter Tryz.func110, Tryz.ntmps110
  go_wp2_with (first | (refine' aAq hR ?_; clear hR; intro blk w hR) | (refine' aBq hR ?_; clear hR; intro blk w hR) | (refine' aEq hR ?_) | (refine' aQq hR ?_) | (refine' aFq hR ?_; clear hR; intro w hR) | (go_at_call 181; refine (m1 _).mono ?_; rintro e w ⟨rfl, hb⟩; replace hR := hR.call hb; clear hb) | (go_at_call 182; refine (x1 _).mono ?_; rintro e w ⟨rfl, hb⟩; replace hR := hR.call hb; clear hb))
  (refine' bodyPost_ret (xAh Tryz.results110 rfl (hR.loadAll (P := Tryz.prog) (ty := 24) ?hm ?hn)) rfl ⟨?_, hR.below⟩; (case hm => first | with_reducible assumption | repeat (first | exact .head _ | apply mT)); (case hn => first | rfl | simp))
  rfl
 ·rw [if_neg ok] at hr he
  have m1 := may_lit (q := q) (g := g) (h := h) hp ha (decide_eq_false ok)
  subst hr he
  rw [z_num]
  clear ok
  have hR := Rep.init w
  go_enter Tryz.func110, Tryz.ntmps110
  go_wp2_with (first | (refine' aAq hR ?_; clear hR; intro blk w hR) | (refine' aBq hR ?_; clear hR; intro blk w hR) | (refine' aEq hR ?_) | (refine' aFq hR ?_; clear hR; intro w hR) | (go_at_call 181; refine (m1 _).mono ?_; rintro e w ⟨rfl, hb⟩; replace hR := hR.call hb; clear hb))
  (refine' bodyPost_ret (xAh Tryz.results110 rfl (hR.loadAll (P := Tryz.prog) (ty := 24) ?hm ?hn)) rfl ⟨?_, hR.below⟩; (case hm => first | with_reducible assumption | repeat (first | exact .head _ | apply mT)); (case hn => first | rfl | simp))
  rfl
end
end
section
section
variable {F : Fence} {n : Nat} {P : Program} {ops : Array Oper} {Q : Exit → Act → World → Prop} {w : World} {tl : List Nat}
structure xGh (P : Program) (ops : Array Oper) (w : World) (o : Oper) (v : Value) (a : Act) : Prop where
 wanted : Region.wanted o (yielded ops a.tmps) = true
 about : o.about P w a.eval = none
 run : (execOp a.eval o).run P w = .ok (.value v) w
theorem xGh.of_put {o : Oper} {v u : Value} {a : Act} {dst : Option Tmp} (hs : ∀ cs b, o.op ≠ .select cs b) (h : ∀ d, dst = some d → d ∉ o.looksAt ops) : xGh P ops w o v (a.put dst u) ↔ xGh P ops w o v a := by
 constructor
 ·rintro ⟨h1, h2, h3⟩
  rw [wanted_put o a dst u h] at h1
  rw [about_put o w a dst u h] at h2
  rw [execOp_put o hs a dst u h] at h3
  exact ⟨h1, h2, h3⟩
 ·rintro ⟨h1, h2, h3⟩
  refine ⟨?_, ?_, ?_⟩
  ·rw [wanted_put o a dst u h]; exact h1
  ·rw [about_put o w a dst u h]; exact h2
  ·rw [execOp_put o hs a dst u h]; exact h3
def wpAnyR (F : Fence) (n : Nat) (P : Program) (ops : Array Oper) (Q : Exit → Act → World → Prop) (tl : List Nat) (w : World) : Nat → Array Bool → Act → Prop
  | 0, listed, a => Region.ready .any ops listed = [] ∧ Q .normal a w
  | f + 1, listed, a => (Region.ready .any ops listed = [] → Q .normal a w) ∧ ∀ i ∈ Region.ready .any ops listed,
      (∃ o v, ops[i]? = some o ∧ xGh P ops w o v a ∧ wpAnyR F n P ops Q tl w f (listed.setIfInBounds i true) (a.put o.dst v)) ∨ (i ∈ tl ∧ wpOpIn F n P ops Q i (wpAnyIn F n P .any ops Q f (listed.setIfInBounds i true)) a w)
theorem xIx (hro : F.round = none) : ∀ (f : Nat) (listed : Array Bool) (a : Act), wpAnyR F n P ops Q tl w f listed a → wpAnyIn F n P .any ops Q f listed a w
  | 0, _, _, h => h
  | f + 1, listed, a, h => ⟨h.1, fun i hi => by
      rcases h.2 i hi with ⟨o, v, ho, hy, hn⟩ | ⟨_, hn⟩
      · unfold Go.wpOpIn
        simp only [ho]
        have hab : ∀ f, o.about P w a.eval = some f → F.fn f := fun f hf => by rw [hy.about] at hf; cases hf
        simp only [hy.wanted, if_true, Oper.wpIn, hro, Oper.semAt_none, hy.run, Oper.uponIn]
        exact ⟨hab, xIx hro f _ _ hn⟩
      · exact hn⟩
theorem headR_first {i : Nat} {oi : Oper} {v : Value} (hi : ops[i]? = some oi) (hs : ∀ (j : Nat) (o : Oper) cs b, ops[j]? = some o → o.op ≠ .select cs b) (hit : i ∉ tl) (hsink : ∀ ls, xFi ops ls → ∀ t ∈ tl, ls.getD t false = true → ls.getD i false = true) : ∀ (fuel : Nat) (listed : Array Bool) (a : Act), xFi ops listed →
   (∀ j oj, ops[j]? = some oj → j ≠ i → listed.getD j true = false → (∀ e ∈ oj.after, Region.binds .any e = true → e.on ≠ i) → oi.apart ops oj = true) →
   i ∈ Region.ready .any ops listed → xGh P ops w oi v a →
   wpAnyR F n P ops Q tl w fuel (listed.setIfInBounds i true) (a.put oi.dst v) → wpAnyR F n P ops Q tl w (fuel + 1) listed a := by
 intro fuel
 induction fuel with
 | zero =>
  intro listed a hcl _ hr hy H
  refine ⟨fun h0 => (by rw [h0] at hr; cases hr), fun j hj => ?_⟩
  by_cases hji : j = i
  ·subst hji
   exact .inl ⟨oi, v, hi, hy, H⟩
  ·have := ready_mono hj hji
   rw [H.1] at this
   cases this
 | succ fuel ih =>
  intro listed a hcl hfree hr hy H
  refine ⟨fun h0 => (by rw [h0] at hr; cases hr), fun j hj => ?_⟩
  by_cases hji : j = i
  ·subst hji
   exact .inl ⟨oi, v, hi, hy, H⟩
  ·have hH := H.2 j (ready_mono hj hji)
   obtain ⟨hjun, oj, hoj, hall⟩ := mem_ready.1 hj
   have hnot : ∀ e ∈ oj.after, Region.binds .any e = true → e.on ≠ i := fun e he hb heq => by
    have h1 := hall e he hb
    have h0 := (mem_ready.1 hr).1
    rw [heq] at h1
    rcases Nat.lt_or_ge i listed.size with h' | h'
    ·simp [h'] at h0 h1; rw [h0] at h1; cases h1
    ·simp [Array.getElem?_eq_none h'] at h1
   have hjt : j ∉ tl := fun ht => by
    have hsz : ∀ k ok, ops[k]? = some ok → k < listed.size := fun k ok hk => by
     rw [hcl.1]; exact (Array.getElem?_eq_some_iff.1 hk).1
    have k1 := hsink _ (hcl.set hj) j ht (by have := hsz j oj hoj; simp [this])
    rw [getD_set_ne false hji] at k1
    have h0 := (mem_ready.1 hr).1
    have := hsz i oi hi
    simp [this] at h0 k1
    rw [h0] at k1; cases k1
   rcases hH with ⟨oj', u, hoj', hyj, hn⟩ | ⟨ht, _⟩
   ·obtain rfl : oj = oj' := Option.some.inj (hoj.symm.trans hoj')
    obtain ⟨p1, p2, p3⟩ := Oper.apart_spec (hfree j oj hoj hji hjun hnot)
    refine .inl ⟨oj, u, hoj, (xGh.of_put (fun cs b => hs j oj cs b hoj) p1).1 hyj, ?_⟩
    refine ih (listed.setIfInBounds j true) (a.put oj.dst u) (hcl.set hj) (fun k ok hk hki hun hno => ?_) (ready_mono hr (Ne.symm hji)) ((xGh.of_put (fun cs b => hs i oi cs b hi) p3).2 hy) ?_
    ·refine hfree k ok hk hki ?_ hno
     by_cases hjk : j = k
     ·subst hjk; exact hjun
     ·rw [getD_set_ne true hjk] at hun; exact hun
    ·rw [Array.setIfInBounds_comm _ _ hji, ← Act.put_comm a v u p2]
     exact hn
   ·exact absurd ht hjt
def headR (P : Program) (ops : Array Oper) (w : World) (K : List Oper → Act → Prop) : List Nat → List Oper → List Oper → Act → Prop
 | t :: ts, o :: l, acc, a => if t = 2 then headR P ops w K ts l (acc ++ [o]) a else ∃ v, xGh P ops w o v a ∧ headR P ops w K ts l acc (a.put o.dst v)
 | [], _, acc, a => K acc a
 | _ :: _, [], acc, a => K acc a
def headRW (P : Program) (ops : Array Oper) (w : World) (K : Act → Prop) : List (Nat × Bool) → Act → Prop
 | [], a => K a
 | i :: r, a => ∃ o v, ops[i.1]? = some o ∧ xGh P ops w o v a ∧ headRW P ops w K r (a.put o.dst v)
theorem xKi {K : Act → Prop} : ∀ (ts : List Nat) (l acc : List Oper) (k : Nat) (a : Act), ts.length = l.length → (∀ j, l[j]? = ops[k + j]?) → headR P ops w (fun _ a' => K a') ts l acc a → headRW P ops w K (xBi k ts) a
  | [], [], acc, k, a, _, _, h => h
  | [], _ :: _, _, _, _, hl, _, _ => nomatch hl
  | _ :: _, [], _, _, _, hl, _, _ => nomatch hl
  | t :: ts, o :: l, acc, k, a, hl, hj, h => by
    have h0 : ops[k]? = some o := by simpa using (hj 0).symm
    have hj' : ∀ j, l[j]? = ops[k + 1 + j]? := fun j => by have := hj (j + 1); simpa [Nat.add_assoc, Nat.add_comm 1 j] using this
    have hl' : ts.length = l.length := by simpa using hl
    unfold headR at h
    by_cases ht : t = 2
    · subst ht
      simp only [if_true] at h
      simp only [xBi, if_true]
      exact xKi ts l (acc ++ [o]) (k + 1) a hl' hj' h
    · rw [if_neg ht] at h
      obtain ⟨v, h1, hr⟩ := h
      simp only [xBi, if_neg ht]
      exact ⟨o, v, h0, h1, xKi ts l acc (k + 1) _ hl' hj' hr⟩
def readsOK (ops : Array Oper) (tl : List Nat) (ord : List (Nat × Bool)) (listed : Array Bool) : Bool := Region.noSelect ops && ordB ops (ord.map (·.1)) listed && ((match tl with | [] => true | t :: _ => sinkB ops t (ord.map (·.1))) && chainB ops tl && ord.all fun i => !tl.contains i.1)
theorem readsAll (hs : ∀ (j : Nat) (o : Oper) cs b, ops[j]? = some o → o.op ≠ .select cs b) {K : Act → Prop} {m : Nat} (full : List Nat) (hsink : ∀ ls, xFi ops ls → ∀ t ∈ tl, ls.getD t false = true → ∀ i ∈ full, ls.getD i false = true) : ∀ (ord : List (Nat × Bool)) (listed : Array Bool) (a : Act), (∀ p ∈ ord, p.1 ∈ full ∧ p.1 ∉ tl) → xFi ops listed → ordB ops (ord.map (·.1)) listed = true →
    headRW P ops w K ord a → (∀ a', K a' → wpAnyR F n P ops Q tl w m (xCp (ord.map (·.1)) listed) a') → wpAnyR F n P ops Q tl w (ord.length + m) listed a
  | [], listed, a, _, _, _, h, hn => by rw [List.length_nil, Nat.zero_add]; exact hn a h
  | (i, b) :: r, listed, a, hin, hcl, hB, h, hn => by
    simp only [List.map_cons, ordB, Bool.and_eq_true] at hB
    obtain ⟨⟨hr, hfr⟩, hB'⟩ := hB
    obtain ⟨o, v, ho, hy, hK⟩ := h
    have hr' : i ∈ Region.ready .any ops listed := by simpa using hr
    obtain ⟨hif, hit⟩ := hin (i, b) (.head _)
    rw [List.length_cons, show r.length + 1 + m = (r.length + m) + 1 by omega]
    exact headR_first ho hs hit (fun ls hl t ht hlt => hsink ls hl t ht hlt i hif) (r.length + m) listed a hcl (Region.free_spec ho hfr) hr' hy (readsAll hs full hsink r _ _ (fun p hp => hin p (.tail _ hp)) (hcl.set hr') hB' hK hn)
theorem xHo {id : Nat} {l : List Oper} {a : Act} (ts : List Nat) (m : Nat) (hm : P.follows .mixedOrders = true) (hro : F.round = none) (hlen : ts.length = l.length) (hsz : l.length = (xBi 0 ts).length + (m + 1)) (hB : readsOK l.toArray (xCt 0 ts) (xBi 0 ts) (Array.replicate l.length false) = true)
  (hT : ((Region.ready .any l.toArray (xCp ((xBi 0 ts).map (·.1)) (Array.replicate l.length false))).all (xCt 0 ts).contains) = true)
  (h : ∀ K : Act → Prop, (∀ a', wpAnyIn F n P .any l.toArray Q (m + 1) (xCp ((xBi 0 ts).map (·.1)) (Array.replicate l.length false)) a' w.drew → K a') → headR P l.toArray w.drew (fun _ a' => K a') ts l [] a) : (Code.region id l.toArray true).wpIn F n P Q a w := by
 refine wpIn_region_any hm ?_
 change wpAnyIn _ _ _ _ _ _ _ _ _ w.drew
 simp only [readsOK, Bool.and_eq_true] at hB
 obtain ⟨⟨h1, h2⟩, ⟨h3, h4⟩, h5⟩ := hB
 have hcl0 : xFi l.toArray (Array.replicate l.length false) := ⟨by simp, fun j oj _ hl => by
  rcases Nat.lt_or_ge j l.length with h' | h'
  ·simp [h'] at hl
  ·simp [h'] at hl⟩
 have hsink : ∀ ls, xFi l.toArray ls → ∀ t ∈ xCt 0 ts, ls.getD t false = true → ∀ i ∈ (xBi 0 ts).map (·.1), ls.getD i false = true := fun ls hl t ht hlt i hi => by
  cases htl : xCt 0 ts with
  | nil => rw [htl] at ht; cases ht
  | cons t0 r =>
   have ht0 := xGw hl _ h4 t ht hlt t0 (by rw [htl]; rfl)
   rw [htl] at h3
   exact xGz hl ht0 _ h3 i hi
 have hW := xKi (P := P) (ops := l.toArray) (w := w.drew) (K := fun a' => wpAnyIn F n P .any l.toArray Q (m + 1) (xCp ((xBi 0 ts).map (·.1)) (Array.replicate l.length false)) a' w.drew) ts l [] 0 a hlen (fun j => by simp) (h _ (fun _ h => h))
 have hA := readsAll (F := F) (n := n) (Q := Q) (tl := xCt 0 ts) (m := m + 1) (Region.noSelect_spec h1) _ hsink (xBi 0 ts) _ a (fun p hp => ⟨List.mem_map.2 ⟨p, hp, rfl⟩, by simpa using List.all_eq_true.1 h5 p hp⟩) hcl0 h2 hW (fun a' ha' => ⟨ha'.1, fun i hi => .inr ⟨by simpa using List.all_eq_true.1 hT i hi, ha'.2 i hi⟩⟩)
 rw [← hsz] at hA
 have := xIx hro _ _ _ hA
 simpa using this
theorem hr_tail {ts : List Nat} {r acc : List Oper} {o : Oper} {a : Act} {K : List Oper → Act → Prop} (h : headR P ops w K ts r (acc ++ [o]) a) : headR P ops w K (2 :: ts) (o :: r) acc a := by
 unfold headR; rw [if_pos rfl]; exact h
theorem hr_nil {r acc : List Oper} {a : Act} {K : List Oper → Act → Prop} (h : K acc a) : headR P ops w K [] r acc a := by
 unfold headR; exact h
theorem hr_read {ts : List Nat} {r acc : List Oper} {o : Oper} {a a' : Act} {v : Value} {K : List Oper → Act → Prop} (hw : Region.wanted o (yielded ops a.tmps) = true) (hab : o.about P w a.eval = none) (hrun : (execOp a.eval o).run P w = .ok (.value v) w) (ha : a.put o.dst v = a')
  (h : headR P ops w K ts r acc a') : headR P ops w K (0 :: ts) (o :: r) acc a := by
 unfold headR
 rw [if_neg (by decide)]
 subst ha
 exact ⟨v, ⟨hw, hab, hrun⟩, h⟩
end
end
section
end
section
end
section
inductive RT where
 | leaf
 | node (n t k : Nat) (p : Nat → RT)
def RT.num : RT → Nat
 | .leaf => 0
 | .node n _ _ _ => n
end
end Go.Proofs.YtaaahfjpnggkbaaGreatDoor
