/- The contract of shas.state.take. -/
import Derived.Test.YtgfoeongjhkdmaaGreatRStop
import Derived.Test.YtgfoeongjhkdmaaGreatRB
import Derived.Test.YtgfoeongjhkdmaaGreatRA
import Derived.Test.YtgfoeongjhkdmaaGreatRShaSteps
set_option linter.unusedVariables false
set_option linter.unusedSimpArgs false
namespace Go.Proofs.YtgfoeongjhkdmaaGreat
open Go.RowKit
attribute [local irreducible] Calls
noncomputable def wAt (b : Nat → Nat) : Nat → Nat := opq fun i => (sched b 64).getD i 0
theorem wAt_def (b : Nat → Nat) (i : Nat) : wAt b i = (sched b 64).getD i 0 := by unfold wAt; rw [xCe]
noncomputable def wRow (b : Nat → Nat) (i : Nat) : List Value := u32s 64 fun j => if j < i then wAt b j else 0
@[simp] theorem wRow_length (b : Nat → Nat) (i : Nat) : (wRow b i).length = 64 := u32s_length _ _
theorem wRow_at {b : Nat → Nat} {i k : Nat} (h : k < i) (h64 : k < 64) : (wRow b i)[k]? = some (.int .u32 (wAt b k : Int)) := by
  unfold wRow
  rw [u32s_at h64, if_pos h]
theorem wRow_set (b : Nat → Nat) {i x : Nat} (hx : wAt b i = x) : (wRow b i).set i (.int .u32 (x : Int)) = wRow b (i + 1) := by
  unfold wRow
  refine u32s_set (by rw [if_pos (by omega), hx]) fun j _ hj => ?_
  by_cases h : j < i
  · rw [if_pos h, if_pos (by omega)]
  · rw [if_neg h, if_neg (by omega)]
theorem wAt_first {b : Nat → Nat} {i : Nat} (h : i < 16) : wAt b i = wordN b i := by
  rw [wAt_def, sched_grow b i (i + 1) 64 (by omega) (by omega)]
  simp only [sched, if_pos h]
  rw [List.getD_eq_getElem?_getD, List.getElem?_append_right (by rw [xDe]; omega), xDe]
  simp
theorem wAt_more {b : Nat → Nat} {i : Nat} (h : ¬ i < 16) (h64 : i < 64) : wAt b i = moreN (wAt b (i - 16)) (wAt b (i - 7)) (wAt b (i - 15)) (wAt b (i - 2)) := by
  simp only [wAt_def]
  rw [sched_grow b i (i + 1) 64 (by omega) (by omega), sched_grow b (i - 16) i 64 (by omega) (by omega), sched_grow b (i - 7) i 64 (by omega) (by omega), sched_grow b (i - 15) i 64 (by omega) (by omega), sched_grow b (i - 2) i 64 (by omega) (by omega)]
  conv => lhs; simp only [sched, if_neg h]
  rw [List.getD_eq_getElem?_getD, List.getElem?_append_right (by rw [xDe]; omega), xDe]
  simp
theorem wAt_lt {b : Nat → Nat} (hb : ∀ j, b j < 256) (i : Nat) : wAt b i < 4294967296 := by rw [wAt_def]; exact sched_getD_lt hb _ _
theorem more_int (a b c d : Nat) (hc : c < 4294967296) (hd : d < 4294967296) :
    IntKind.u32.wrap (IntKind.u32.wrap (IntKind.u32.wrap ((a : Int) + b) + bits BinOp.xor IntKind.u32 ((rot2 c 7 18 : Nat) : Int) ((c : Int) / 8)) + bits BinOp.xor IntKind.u32 ((rot2 d 17 19 : Nat) : Int) ((d : Int) / 1024)) = ((moreN a b c d : Nat) : Int) := by
  have e1 : (c : Int) / 8 = ((c / 8 : Nat) : Int) := by simp
  have e2 : (d : Int) / 1024 = ((d / 1024 : Nat) : Int) := by simp
  rw [e1, e2, xCz _ _ (rot2_lt _ _ hc) (by omega), xCz _ _ (rot2_lt _ _ hd) (by omega)]
  simp only [IntKind.wrap_u32]
  unfold moreN
  generalize rot2 c 7 18 ^^^ c / 8 = x
  generalize rot2 d 17 19 ^^^ d / 1024 = y
  omega
theorem isNew2 {o : Oper} {a : Act} {x y : Int} (hg : o.guard = none) (hop : o.op = .buildSlice 132 2 #[(0, .const (.int .i64 x)), (1, .const (.int .i64 y))]) : IsNew Tryz.prog o a (.cells [.int .i64 x, .int .i64 y].toArray 3) (fun b => .slice (some ⟨b, 0, none⟩) 2 2) :=
  isNew_slice hg hop (fun w => by
    go_simp)
theorem isNew3 {o : Oper} {a : Act} {x y z : Int} (hg : o.guard = none) (hop : o.op = .buildSlice 132 3 #[(0, .const (.int .i64 x)), (1, .const (.int .i64 y)), (2, .const (.int .i64 z))]) : IsNew Tryz.prog o a (.cells [.int .i64 x, .int .i64 y, .int .i64 z].toArray 3) (fun b => .slice (some ⟨b, 0, none⟩) 3 3) :=
  isNew_slice hg hop (fun w => by
    go_simp)
theorem mix_1 (x : Nat) (hx : x < 4294967296) {B0 b : Nat} {w0 : World} {L : List (Nat × Obj)} {w : World} (hm : (b, Obj.cells [Value.int .i64 7, .int .i64 18].toArray 3) ∈ L) (hR : Rep B0 w0 L w) :
    Calls Tryz.prog 115 #[.int .u32 (x : Int), .slice (some ⟨b, 0, none⟩) 2 2] w fun e w' => e = .returned (.int .u32 ((rot2 x 7 18 : Nat) : Int)) ∧ Rep B0 w0 L w' :=
  (mix2_any x 7 18 b hx (by decide) (by decide) w (hR.cell hm rfl) (hR.cell hm rfl)).mono fun e w' ⟨h1, h2⟩ => ⟨h1, by rw [h2]; exact hR⟩
theorem mix_2 (x : Nat) (hx : x < 4294967296) {B0 b : Nat} {w0 : World} {L : List (Nat × Obj)} {w : World} (hm : (b, Obj.cells [Value.int .i64 17, .int .i64 19].toArray 3) ∈ L) (hR : Rep B0 w0 L w) :
    Calls Tryz.prog 115 #[.int .u32 (x : Int), .slice (some ⟨b, 0, none⟩) 2 2] w fun e w' => e = .returned (.int .u32 ((rot2 x 17 19 : Nat) : Int)) ∧ Rep B0 w0 L w' :=
  (mix2_any x 17 19 b hx (by decide) (by decide) w (hR.cell hm rfl) (hR.cell hm rfl)).mono fun e w' ⟨h1, h2⟩ => ⟨h1, by rw [h2]; exact hR⟩
theorem mix_3 (x r : Nat) (hx : x < 4294967296) (hr : rot3 x 6 11 25 = r) {B0 b : Nat} {w0 : World} {L : List (Nat × Obj)} {w : World} (hm : (b, Obj.cells [Value.int .i64 6, .int .i64 11, .int .i64 25].toArray 3) ∈ L) (hR : Rep B0 w0 L w) :
    Calls Tryz.prog 115 #[.int .u32 (x : Int), .slice (some ⟨b, 0, none⟩) 3 3] w fun e w' => e = .returned (.int .u32 (r : Int)) ∧ Rep B0 w0 L w' :=
  (mix3_any x 6 11 25 b hx (by decide) (by decide) (by decide) w (hR.cell hm rfl) (hR.cell hm rfl) (hR.cell hm rfl)).mono fun e w' ⟨h1, h2⟩ => ⟨by rw [h1, hr], by rw [h2]; exact hR⟩
theorem mix_4 (x r : Nat) (hx : x < 4294967296) (hr : rot3 x 2 13 22 = r) {B0 b : Nat} {w0 : World} {L : List (Nat × Obj)} {w : World} (hm : (b, Obj.cells [Value.int .i64 2, .int .i64 13, .int .i64 22].toArray 3) ∈ L) (hR : Rep B0 w0 L w) :
    Calls Tryz.prog 115 #[.int .u32 (x : Int), .slice (some ⟨b, 0, none⟩) 3 3] w fun e w' => e = .returned (.int .u32 (r : Int)) ∧ Rep B0 w0 L w' :=
  (mix3_any x 2 13 22 b hx (by decide) (by decide) (by decide) w (hR.cell hm rfl) (hR.cell hm rfl) (hR.cell hm rfl)).mono fun e w' ⟨h1, h2⟩ => ⟨by rw [h1, hr], by rw [h2]; exact hR⟩
theorem round_facts (a b c d e f g h k w : Nat) (oa : a < 4294967296) (ob : b < 4294967296) (oc : c < 4294967296) (oe : e < 4294967296) (of : f < 4294967296) (og : g < 4294967296) :
    ∃ r1 r2 x1 y1 y2 y3 x2 x3 t z1 z2 z3 z4 z5 u1 u d' : Nat, rot3 e 6 11 25 = r1 ∧ rot3 a 2 13 22 = r2 ∧ IntKind.u32.wrap ((h : Int) + r1) = x1 ∧ bits BinOp.xor IntKind.u32 f g = y1 ∧ bits BinOp.and IntKind.u32 e y1 = y2 ∧ bits BinOp.xor IntKind.u32 g y2 = y3 ∧
      IntKind.u32.wrap ((x1 : Int) + y3) = x2 ∧ IntKind.u32.wrap ((x2 : Int) + k) = x3 ∧ IntKind.u32.wrap ((x3 : Int) + w) = t ∧ bits BinOp.and IntKind.u32 a b = z1 ∧ bits BinOp.and IntKind.u32 a c = z2 ∧ bits BinOp.xor IntKind.u32 z1 z2 = z3 ∧ bits BinOp.and IntKind.u32 b c = z4 ∧ bits BinOp.xor IntKind.u32 z3 z4 = z5 ∧
      IntKind.u32.wrap ((t : Int) + r2) = u1 ∧ IntKind.u32.wrap ((u1 : Int) + z5) = u ∧ IntKind.u32.wrap ((d : Int) + t) = d' ∧ roundN ⟨a, b, c, d, e, f, g, h⟩ k w = ⟨u, a, b, c, d', e, f, g⟩ := by
  refine ⟨rot3 e 6 11 25, rot3 a 2 13 22, (h + rot3 e 6 11 25) % 4294967296, f ^^^ g, e &&& (f ^^^ g), chN e f g, ((h + rot3 e 6 11 25) % 4294967296 + chN e f g) % 4294967296, (((h + rot3 e 6 11 25) % 4294967296 + chN e f g) % 4294967296 + k) % 4294967296, tN ⟨a, b, c, d, e, f, g, h⟩ k w, a &&& b, a &&& c, (a &&& b) ^^^ (a &&& c), b &&& c, majN a b c, (tN ⟨a, b, c, d, e, f, g, h⟩ k w + rot3 a 2 13 22) % 4294967296, uN ⟨a, b, c, d, e, f, g, h⟩ (tN ⟨a, b, c, d, e, f, g, h⟩ k w), (d + tN ⟨a, b, c, d, e, f, g, h⟩ k w) % 4294967296, rfl, rfl, ?_, xCz f g of og, u32_and e _ oe (xor_lt of og), xCz g _ og (and_lt (xor_lt of og)), ?_, ?_, ?_, u32_and a b oa ob, u32_and a c oa oc, xCz _ _ (and_lt ob) (and_lt oc), u32_and b c ob oc, xCz _ _ (xor_lt (and_lt ob) (and_lt oc)) (and_lt oc), ?_, ?_, ?_, rfl⟩
  · rw [IntKind.wrap_u32]; omega
  · rw [IntKind.wrap_u32]; omega
  · rw [IntKind.wrap_u32]; omega
  · rw [IntKind.wrap_u32]; unfold tN; simp only; omega
  · rw [IntKind.wrap_u32]; omega
  · rw [IntKind.wrap_u32]; unfold uN; simp only; omega
  · rw [IntKind.wrap_u32]; omega
set_option maxRecDepth 100000 in
set_option maxHeartbeats 4000000 in
theorem take_lit (s r : S8) (b : Nat → Nat) (hs : s.ok) (hb : ∀ j, b j < 256) (hr : Held (takeN s b = r)) (w : World) : Calls Tryz.prog 112 #[.agg (s8L s).toArray, .agg (u8s 64 b).toArray] w fun e w' =>
    e = .returned (.agg (s8L r).toArray) ∧ Below w.heap.size w w' := by
  have hR := Rep.init w
  go_enter Tryz.func112, Tryz.ntmps112
  go_wp2_with (first | (refine' xAb hR rfl rfl rfl ?_; clear hR; intro blk w hR) | (refine' xAa hR rfl rfl inferInstance ?_; clear hR; intro blk w hR) | (refine' aAq hR rfl rfl rfl inferInstance ?_) | (refine' aBq hR rfl rfl rfl inferInstance ?_) | (refine' aCq hR rfl rfl rfl inferInstance ?_) | (refine' aDq hR rfl rfl rfl inferInstance rfl ?_; clear hR; intro w hR) | (refine' aEq hR rfl rfl rfl inferInstance rfl rfl ?_; clear hR; intro w hR) | fail)
  rename_i b1' _ b2' _ b3' _ K0 k0
  refine' xCa (false :: false :: false :: false :: false :: false :: true :: true :: true :: false :: false :: false :: false :: false :: false :: false :: false :: false :: false :: false :: false :: false :: false :: true :: true :: true :: true :: true :: true :: true :: true :: true :: true :: true :: true :: true :: true :: true :: true :: true :: true :: true :: true :: true :: true :: true :: true :: true :: true :: true :: true :: true :: true :: true :: true :: true :: true :: true :: true :: true :: true :: true :: true :: true :: true :: true :: true :: true :: true :: true :: true :: true :: true :: true :: true :: true :: true :: true :: true :: true :: true :: true :: true :: true :: true :: true :: true :: true :: true :: true :: true :: true :: false :: false :: false :: false :: false :: false :: false :: false :: false :: false :: false :: false :: false :: false :: false :: false :: false :: false :: false :: false :: false :: false :: false :: false :: false :: false :: false :: false :: false :: false :: false :: false :: false :: false :: false :: false :: false :: false :: false :: false :: false :: false :: false :: false :: false :: false :: false :: false :: false :: false :: false :: false :: false :: false :: false :: false :: false :: false :: false :: false :: false :: false :: false :: false :: false :: false :: false :: false :: false :: false :: false :: false :: false :: false :: false :: false :: false :: false :: false :: false :: false :: false :: []) (fun j l => l.set 22 (.int .i64 ((64 : Int) - (j : Int)))) (fun j => [(blk, .cells (wRow b (64 - j)).toArray 128), (b3', .cells (s8L zeroS).toArray 112), (b2', .cells (u8s 64 b).toArray 114), (b1', .cells (s8L s).toArray 112)]) 64 ?h0 ?hR ?hs ?he
  case hR => exact hR
  case h0 => exact xAu rfl rfl rfl
  case hs =>
    clear hR k0
    intro j tm w hj ht hR K hK
    repeat (first | (obtain ⟨x, tm', e, ht'⟩ := xAf ht; clear ht; subst e; have ht := ht'; clear ht') | (obtain ⟨tm', e, ht'⟩ := xAc ht; clear ht; subst e; have ht := ht'; clear ht'))
    obtain rfl := xAk ht
    clear ht
    obtain ⟨k, hk⟩ : ∃ k, 64 - (j + 1) = k := ⟨_, rfl⟩
    have e1 : (64 : Int) - ((j + 1 : Nat) : Int) = (k : Int) := by omega
    have e2 : (64 : Int) - (j : Int) = (k : Int) + 1 := by omega
    have e3 : 64 - j = k + 1 := by omega
    rw [hk] at hR
    simp only [e2, e3] at hK
    rw [e1]
    have k64 : k < 64 := by omega
    clear e1 e2 e3 hk hj
    have g0 : 0 ≤ (k : Int) := by omega
    have g1 : (k : Int) < 64 := by omega
    by_cases h16 : k < 16
    · have g2 : (k : Int) < 16 := by omega
      have d0 := u8s_at (w := b) (show 4 * k < 64 by omega)
      have d1 := u8s_at (w := b) (show 4 * k + 1 < 64 by omega)
      have d2 := u8s_at (w := b) (show 4 * k + 2 < 64 by omega)
      have d3 := u8s_at (w := b) (show 4 * k + 3 < 64 by omega)
      have v0 := hb (4 * k); have v1 := hb (4 * k + 1); have v2 := hb (4 * k + 2); have v3 := hb (4 * k + 3)
      obtain ⟨p0, hp0⟩ : ∃ p, 4 * k = p := ⟨_, rfl⟩
      obtain ⟨p1, hp1⟩ : ∃ p, 4 * k + 1 = p := ⟨_, rfl⟩
      obtain ⟨p2, hp2⟩ : ∃ p, 4 * k + 2 = p := ⟨_, rfl⟩
      obtain ⟨p3, hp3⟩ : ∃ p, 4 * k + 3 = p := ⟨_, rfl⟩
      have q0 : IntKind.i64.wrap (4 * (k : Int)) = (p0 : Int) := by rw [IntKind.wrap_i64]; omega
      have q1 : IntKind.i64.wrap ((p0 : Int) + 1) = (p1 : Int) := by rw [IntKind.wrap_i64]; omega
      have q2 : IntKind.i64.wrap ((p0 : Int) + 2) = (p2 : Int) := by rw [IntKind.wrap_i64]; omega
      have q3 : IntKind.i64.wrap ((p0 : Int) + 3) = (p3 : Int) := by rw [IntKind.wrap_i64]; omega
      rw [hp0] at d0 v0; rw [hp1] at d1 v1; rw [hp2] at d2 v2; rw [hp3] at d3 v3
      have b0 : (p0 : Int) < 64 := by omega
      have b1 : (p1 : Int) < 64 := by omega
      have b2 : (p2 : Int) < 64 := by omega
      have b3 : (p3 : Int) < 64 := by omega
      have a0 : 0 ≤ (p0 : Int) := by omega
      have a1 : 0 ≤ (p1 : Int) := by omega
      have a2 : 0 ≤ (p2 : Int) := by omega
      have a3 : 0 ≤ (p3 : Int) := by omega
      have hw : wAt b k = be4 (b p0) (b p1) (b p2) (b p3) := by rw [wAt_first h16, ← hp0, ← hp1, ← hp2, ← hp3]; rfl
      clear hp0 hp1 hp2 hp3
      have hset := wRow_set b (i := k) (x := be4 (b p0) (b p1) (b p2) (b p3)) hw
      rw [← be4_int _ _ _ _ v0 v1 v2 v3] at hset
      clear hw
      generalize b p0 = c0 at *
      generalize b p1 = c1 at *
      generalize b p2 = c2 at *
      generalize b p3 = c3 at *
      go_wp2_with (first | (refine' xAb hR rfl rfl rfl ?_; clear hR; intro blk w hR) | (refine' xAa hR rfl rfl inferInstance ?_; clear hR; intro blk w hR) | (refine' aAq hR rfl rfl rfl inferInstance ?_) | (refine' aBq hR rfl rfl rfl inferInstance ?_) | (refine' aCq hR rfl rfl rfl inferInstance ?_) | (refine' aDq hR rfl rfl rfl inferInstance rfl ?_; clear hR; intro w hR) | (refine' aEq hR rfl rfl rfl inferInstance rfl rfl ?_; clear hR; intro w hR) | fail)
      refine xAg hR [0, 0, 0, 0, 0, 0, 0, 0, 0, 0, 0, 0, 0, 0, 0, 0, 0, 0, 0, 0, 0, 0, 0, 0, 0, 0, 0, 0, 0, 0, 0, 2] [] xCt (by kernel_rfl) rfl rfl (fun K hK => ?_)
      clear hR
      repeat ((first | (refine xBj ?_) | (refine' xAs (by decide) rfl (.inl rfl) rfl ?ha ?_) | (refine' xAs (by decide) rfl (.inr rfl) rfl ?ha ?_) | (refine' xAr rfl rfl rfl inferInstance ?hm ?hn ?ha ?_; (case hm => first | with_reducible assumption | repeat (first | exact .head _ | apply mT)); (case hn => first | rfl | simp)) | (refine' xAm rfl rfl rfl inferInstance ?hm ?hv ?hn ?ha ?_; (case hm => first | with_reducible assumption | repeat (first | exact .head _ | apply mT)); (case hv => first | with_reducible assumption | (simp only [kC, kD, kE, kF]; try rfl)); (case hn => first | rfl | simp)) | (refine' xAi rfl rfl rfl inferInstance ?hm ?hv ?ha ?_; (case hm => first | with_reducible assumption | repeat (first | exact .head _ | apply mT)); (case hv => first | rfl | with_reducible assumption)) | (refine' xAn rfl rfl rfl inferInstance ?hm ?hv ?hn ?ha ?_; (case hm => first | with_reducible assumption | repeat (first | exact .head _ | apply mT)); (case hv => first | with_reducible assumption | (simp only [kC, kD, kE, kF]; try rfl)); (case hn => first | rfl | simp)) | (refine' xAj rfl rfl rfl inferInstance ?hm ?hv ?ha ?_; (case hm => first | with_reducible assumption | repeat (first | exact .head _ | apply mT)); (case hv => first | rfl | with_reducible assumption)) | ((first | refine' xAd (by decide) rfl rfl rfl rfl (fun w => ?hq) ?ha ?_ | refine' xBf (by decide) rfl rfl rfl rfl (fun w => ?hq) ?ha ?_ | refine' xAp (by decide) rfl rfl rfl (fun w => ?hq) ?ha ?_ | refine' xAe (by decide) rfl rfl rfl (fun w => ?hq) ?ha ?_ | refine' xAo (by decide) rfl rfl rfl (fun w => ?hq) ?ha ?_ | refine' xBd (by decide) rfl rfl rfl rfl (fun w => ?hq) ?ha ?_ | refine' xBc (by decide) rfl rfl rfl rfl rfl rfl (fun w => ?hq) ?ha ?_ | refine' xBb (by decide) rfl rfl (fun w => ?hq) ?ha ?_ | refine' xAq (by decide) rfl rfl rfl (fun w => ?hq) ?ha ?_ | refine' xBe (by decide) rfl rfl rfl (fun w => ?hq) ?ha ?_); (case hq => go_simp; try rfl)) | (refine' xAh (by decide) rfl rfl rfl ?ha ?_) | (refine' xBl (by decide) rfl rfl rfl rfl ?ha ?_) | (refine' xBk (by decide) rfl ?ha ?_) | fail); try (case ha => simp only [kP, kQ, kA, kB]; try rfl))
      refine xBs (hK _ _ ?_)
      clear hK K
      refine xBx (fun Q hQ => ?_)
      try simp only [List.nil_append, List.cons_append]
      repeat ((first | refine' xBa rfl (.inl rfl) rfl ?hk ?ha ?_ | refine' xBa rfl (.inr rfl) rfl ?hk ?ha ?_ | (refine' xAv rfl rfl rfl inferInstance rfl ?hs rfl rfl ?hn ?hk ?ha ?_; (case hs => repeat (first | exact xAx.head | apply xAx.tail)); (case hn => first | rfl | simp)) | (refine' xAl rfl rfl rfl inferInstance rfl rfl ?hs ?hn ?hl ?hk ?ha ?_; (case hs => repeat (first | exact xAx.head | apply xAx.tail)); (case hn => first | exact oD rfl | (show _ < 4; with_reducible assumption) | (simp; try omega)); (case hl => first | with_reducible assumption | (simp only [nl, kA, kB]; first | done | rfl) | rfl)) | (refine' xAw rfl rfl rfl inferInstance rfl rfl ?hvn ?hs ?hn ?hl ?hk ?ha ?_; (case hvn => first | rfl | simp); (case hs => repeat (first | exact xAx.head | apply xAx.tail)); (case hn => first | exact oD rfl | (show _ < 4; with_reducible assumption) | (simp; try omega)); (case hl => first | with_reducible assumption | (simp only [nl, kA, kB]; first | done | rfl) | rfl)) | (refine' xBm rfl (fun w => ?hq) ?hk ?ha ?_; (case hq => go_simp; try rfl))); (case hk => intro p hp; first | exact absurd hp List.not_mem_nil | (obtain rfl := List.mem_singleton.1 hp; repeat (first | exact List.Mem.head _ | apply mT))); (case ha => simp only [kP, kQ, kA, kB]; try rfl))
      refine xBw (fun w hR => hQ _ _ ?_)
      clear hQ Q
      go_wp2_with (first | (refine' xAb hR rfl rfl rfl ?_; clear hR; intro blk w hR) | (refine' xAa hR rfl rfl inferInstance ?_; clear hR; intro blk w hR) | (refine' aAq hR rfl rfl rfl inferInstance ?_) | (refine' aBq hR rfl rfl rfl inferInstance ?_) | (refine' aCq hR rfl rfl rfl inferInstance ?_) | (refine' aDq hR rfl rfl rfl inferInstance rfl ?_; clear hR; intro w hR) | (refine' aEq hR rfl rfl rfl inferInstance rfl rfl ?_; clear hR; intro w hR) | fail)
      exact hK.out _ _ (xAu rfl rfl rfl) hR
    · have g2 : ¬ (k : Int) < 16 := by omega
      obtain ⟨p0, hp0⟩ : ∃ p, k - 15 = p := ⟨_, rfl⟩
      obtain ⟨p1, hp1⟩ : ∃ p, k - 2 = p := ⟨_, rfl⟩
      obtain ⟨p2, hp2⟩ : ∃ p, k - 16 = p := ⟨_, rfl⟩
      obtain ⟨p3, hp3⟩ : ∃ p, k - 7 = p := ⟨_, rfl⟩
      have q0 : IntKind.i64.wrap ((k : Int) - 15) = (p0 : Int) := by rw [IntKind.wrap_i64]; omega
      have q1 : IntKind.i64.wrap ((k : Int) - 2) = (p1 : Int) := by rw [IntKind.wrap_i64]; omega
      have q2 : IntKind.i64.wrap ((k : Int) - 16) = (p2 : Int) := by rw [IntKind.wrap_i64]; omega
      have q3 : IntKind.i64.wrap ((k : Int) - 7) = (p3 : Int) := by rw [IntKind.wrap_i64]; omega
      have d0 := wRow_at (b := b) (i := k) (k := p0) (by omega) (by omega)
      have d1 := wRow_at (b := b) (i := k) (k := p1) (by omega) (by omega)
      have d2 := wRow_at (b := b) (i := k) (k := p2) (by omega) (by omega)
      have d3 := wRow_at (b := b) (i := k) (k := p3) (by omega) (by omega)
      have v0 := wAt_lt hb p0; have v1 := wAt_lt hb p1; have v2 := wAt_lt hb p2; have v3 := wAt_lt hb p3
      have hw : wAt b k = moreN (wAt b p2) (wAt b p3) (wAt b p0) (wAt b p1) := by rw [wAt_more h16 k64, ← hp0, ← hp1, ← hp2, ← hp3]
      have b0 : (p0 : Int) < 64 := by omega
      have b1 : (p1 : Int) < 64 := by omega
      have b2 : (p2 : Int) < 64 := by omega
      have b3 : (p3 : Int) < 64 := by omega
      have a0 : 0 ≤ (p0 : Int) := by omega
      have a1 : 0 ≤ (p1 : Int) := by omega
      have a2 : 0 ≤ (p2 : Int) := by omega
      have a3 : 0 ≤ (p3 : Int) := by omega
      clear hp0 hp1 hp2 hp3
      have hset := wRow_set b (i := k) hw
      rw [← more_int _ _ _ _ v0 v1] at hset
      clear hw
      generalize wAt b p0 = c0 at *
      generalize wAt b p1 = c1 at *
      generalize wAt b p2 = c2 at *
      generalize wAt b p3 = c3 at *
      go_wp2_with (first | (refine' xAb hR rfl rfl rfl ?_; clear hR; intro blk w hR) | (refine' xAa hR rfl rfl inferInstance ?_; clear hR; intro blk w hR) | (refine' aAq hR rfl rfl rfl inferInstance ?_) | (refine' aBq hR rfl rfl rfl inferInstance ?_) | (refine' aCq hR rfl rfl rfl inferInstance ?_) | (refine' aDq hR rfl rfl rfl inferInstance rfl ?_; clear hR; intro w hR) | (refine' aEq hR rfl rfl rfl inferInstance rfl rfl ?_; clear hR; intro w hR) | fail)
      refine xAg hR [0, 0, 0, 0, 1, 1, 1, 1, 2, 2] [0] xCt (by kernel_rfl) rfl rfl (fun K hK => ?_)
      clear hR
      repeat ((first | (refine xBj ?_) | (refine' xAs (by decide) rfl (.inl rfl) rfl ?ha ?_) | (refine' xAs (by decide) rfl (.inr rfl) rfl ?ha ?_) | (refine' xAr rfl rfl rfl inferInstance ?hm ?hn ?ha ?_; (case hm => first | with_reducible assumption | repeat (first | exact .head _ | apply mT)); (case hn => first | rfl | simp)) | (refine' xAm rfl rfl rfl inferInstance ?hm ?hv ?hn ?ha ?_; (case hm => first | with_reducible assumption | repeat (first | exact .head _ | apply mT)); (case hv => first | with_reducible assumption | (simp only [kC, kD, kE, kF]; try rfl)); (case hn => first | rfl | simp)) | (refine' xAi rfl rfl rfl inferInstance ?hm ?hv ?ha ?_; (case hm => first | with_reducible assumption | repeat (first | exact .head _ | apply mT)); (case hv => first | rfl | with_reducible assumption)) | (refine' xAn rfl rfl rfl inferInstance ?hm ?hv ?hn ?ha ?_; (case hm => first | with_reducible assumption | repeat (first | exact .head _ | apply mT)); (case hv => first | with_reducible assumption | (simp only [kC, kD, kE, kF]; try rfl)); (case hn => first | rfl | simp)) | (refine' xAj rfl rfl rfl inferInstance ?hm ?hv ?ha ?_; (case hm => first | with_reducible assumption | repeat (first | exact .head _ | apply mT)); (case hv => first | rfl | with_reducible assumption)) | ((first | refine' xAd (by decide) rfl rfl rfl rfl (fun w => ?hq) ?ha ?_ | refine' xBf (by decide) rfl rfl rfl rfl (fun w => ?hq) ?ha ?_ | refine' xAp (by decide) rfl rfl rfl (fun w => ?hq) ?ha ?_ | refine' xAe (by decide) rfl rfl rfl (fun w => ?hq) ?ha ?_ | refine' xAo (by decide) rfl rfl rfl (fun w => ?hq) ?ha ?_ | refine' xBd (by decide) rfl rfl rfl rfl (fun w => ?hq) ?ha ?_ | refine' xBc (by decide) rfl rfl rfl rfl rfl rfl (fun w => ?hq) ?ha ?_ | refine' xBb (by decide) rfl rfl (fun w => ?hq) ?ha ?_ | refine' xAq (by decide) rfl rfl rfl (fun w => ?hq) ?ha ?_ | refine' xBe (by decide) rfl rfl rfl (fun w => ?hq) ?ha ?_); (case hq => go_simp; try rfl)) | (refine' xAh (by decide) rfl rfl rfl ?ha ?_) | (refine' xBl (by decide) rfl rfl rfl rfl ?ha ?_) | (refine' xBk (by decide) rfl ?ha ?_) | fail); try (case ha => simp only [kP, kQ, kA, kB]; try rfl))
      refine xBs (hK _ _ ?_)
      clear hK K
      refine xBx (fun Q hQ => ?_)
      try simp only [List.nil_append, List.cons_append]
      repeat ((first | refine' xBa rfl (.inl rfl) rfl ?hk ?ha ?_ | refine' xBa rfl (.inr rfl) rfl ?hk ?ha ?_ | (refine' xAv rfl rfl rfl inferInstance rfl ?hs rfl rfl ?hn ?hk ?ha ?_; (case hs => repeat (first | exact xAx.head | apply xAx.tail)); (case hn => first | rfl | simp)) | (refine' xAl rfl rfl rfl inferInstance rfl rfl ?hs ?hn ?hl ?hk ?ha ?_; (case hs => repeat (first | exact xAx.head | apply xAx.tail)); (case hn => first | exact oD rfl | (show _ < 4; with_reducible assumption) | (simp; try omega)); (case hl => first | with_reducible assumption | (simp only [nl, kA, kB]; first | done | rfl) | rfl)) | (refine' xAw rfl rfl rfl inferInstance rfl rfl ?hvn ?hs ?hn ?hl ?hk ?ha ?_; (case hvn => first | rfl | simp); (case hs => repeat (first | exact xAx.head | apply xAx.tail)); (case hn => first | exact oD rfl | (show _ < 4; with_reducible assumption) | (simp; try omega)); (case hl => first | with_reducible assumption | (simp only [nl, kA, kB]; first | done | rfl) | rfl)) | (refine' xBm rfl (fun w => ?hq) ?hk ?ha ?_; (case hq => go_simp; try rfl))); (case hk => intro p hp; first | exact absurd hp List.not_mem_nil | (obtain rfl := List.mem_singleton.1 hp; repeat (first | exact List.Mem.head _ | apply mT))); (case ha => simp only [kP, kQ, kA, kB]; try rfl))
      refine xBw (fun w hR => hQ _ _ ?_)
      clear hQ Q
      go_wp2_with (first | (refine' xAb hR rfl rfl rfl ?_; clear hR; intro blk w hR) | (refine' xAa hR rfl rfl inferInstance ?_; clear hR; intro blk w hR) | (refine' aAq hR rfl rfl rfl inferInstance ?_) | (refine' aBq hR rfl rfl rfl inferInstance ?_) | (refine' aCq hR rfl rfl rfl inferInstance ?_) | (refine' aDq hR rfl rfl rfl inferInstance rfl ?_; clear hR; intro w hR) | (refine' aEq hR rfl rfl rfl inferInstance rfl rfl ?_; clear hR; intro w hR) | fail)
      clear q0 q1 d0 d1 b0 b1 a0 a1
      have m1 := @mix_1 c0 v0
      have m2 := @mix_2 c1 v1
      refine wp_region_news hR [25] 26 xCt rfl ?_
      clear hR
      refine' newsHeads _ [1, 1, 1, 1, 1, 1, 1, 1, 1, 1, 1, 2, 2, 1, 1, 2, 2, 1, 2, 2, 1, 1, 2, 2, 2, 2] 10 rfl ?hk1 (fun p hp => hp) rfl (by kernel_rfl) (fun K hK => ?_)
      case hk1 => first | exact (fun p hp => .tail _ hp) | exact (fun p hp => .tail _ (.tail _ hp)) | exact (fun p hp => hp) | exact (fun p hp => nomatch hp)
      repeat ((first | (refine xBj ?_) | (refine' xAs (by decide) rfl (.inl rfl) rfl ?ha ?_) | (refine' xAs (by decide) rfl (.inr rfl) rfl ?ha ?_) | (refine' xAr rfl rfl rfl inferInstance ?hm ?hn ?ha ?_; (case hm => first | with_reducible assumption | repeat (first | exact .head _ | apply mT)); (case hn => first | rfl | simp)) | (refine' xAm rfl rfl rfl inferInstance ?hm ?hv ?hn ?ha ?_; (case hm => first | with_reducible assumption | repeat (first | exact .head _ | apply mT)); (case hv => first | with_reducible assumption | (simp only [kC, kD, kE, kF]; try rfl)); (case hn => first | rfl | simp)) | (refine' xAi rfl rfl rfl inferInstance ?hm ?hv ?ha ?_; (case hm => first | with_reducible assumption | repeat (first | exact .head _ | apply mT)); (case hv => first | rfl | with_reducible assumption)) | (refine' xAn rfl rfl rfl inferInstance ?hm ?hv ?hn ?ha ?_; (case hm => first | with_reducible assumption | repeat (first | exact .head _ | apply mT)); (case hv => first | with_reducible assumption | (simp only [kC, kD, kE, kF]; try rfl)); (case hn => first | rfl | simp)) | (refine' xAj rfl rfl rfl inferInstance ?hm ?hv ?ha ?_; (case hm => first | with_reducible assumption | repeat (first | exact .head _ | apply mT)); (case hv => first | rfl | with_reducible assumption)) | ((first | refine' xAd (by decide) rfl rfl rfl rfl (fun w => ?hq) ?ha ?_ | refine' xBf (by decide) rfl rfl rfl rfl (fun w => ?hq) ?ha ?_ | refine' xAp (by decide) rfl rfl rfl (fun w => ?hq) ?ha ?_ | refine' xAe (by decide) rfl rfl rfl (fun w => ?hq) ?ha ?_ | refine' xAo (by decide) rfl rfl rfl (fun w => ?hq) ?ha ?_ | refine' xBd (by decide) rfl rfl rfl rfl (fun w => ?hq) ?ha ?_ | refine' xBc (by decide) rfl rfl rfl rfl rfl rfl (fun w => ?hq) ?ha ?_ | refine' xBb (by decide) rfl rfl (fun w => ?hq) ?ha ?_ | refine' xAq (by decide) rfl rfl rfl (fun w => ?hq) ?ha ?_ | refine' xBe (by decide) rfl rfl rfl (fun w => ?hq) ?ha ?_); (case hq => go_simp; try rfl)) | (refine' xAh (by decide) rfl rfl rfl ?ha ?_) | (refine' xBl (by decide) rfl rfl rfl rfl ?ha ?_) | (refine' xBk (by decide) rfl ?ha ?_) | fail); try (case ha => simp only [kP, kQ, kA, kB]; try rfl))
      refine xBs (hK _ _ ?_)
      clear hK K
      refine' news_two 11 18 77 84 _ _ (by kernel_rfl) ?zo ?zp ?zd ?zq ?zi ?zj (fun b => ?na) (fun b => ?nb)
      case zo => rfl
      case zp => rfl
      case zd => rfl
      case zq => rfl
      case zi => exact isNew2 rfl rfl
      case zj => exact isNew2 rfl rfl
      all_goals simp only [kP, kQ, kA, kB]
      case na =>
        refine' newsHeads _ [2, 2, 2, 2, 2, 2, 2, 2, 2, 2, 2, 2, 1, 2, 2, 1, 1, 2, 2, 2, 2, 2, 2, 2, 2, 2] 6 rfl ?hk1 (fun p hp => hp) rfl (by kernel_rfl) (fun K hK => ?_)
        case hk1 => first | exact (fun p hp => .tail _ hp) | exact (fun p hp => .tail _ (.tail _ hp)) | exact (fun p hp => hp) | exact (fun p hp => nomatch hp)
        repeat ((first | (refine xBj ?_) | (refine' xAs (by decide) rfl (.inl rfl) rfl ?ha ?_) | (refine' xAs (by decide) rfl (.inr rfl) rfl ?ha ?_) | (refine' xAr rfl rfl rfl inferInstance ?hm ?hn ?ha ?_; (case hm => first | with_reducible assumption | repeat (first | exact .head _ | apply mT)); (case hn => first | rfl | simp)) | (refine' xAm rfl rfl rfl inferInstance ?hm ?hv ?hn ?ha ?_; (case hm => first | with_reducible assumption | repeat (first | exact .head _ | apply mT)); (case hv => first | with_reducible assumption | (simp only [kC, kD, kE, kF]; try rfl)); (case hn => first | rfl | simp)) | (refine' xAi rfl rfl rfl inferInstance ?hm ?hv ?ha ?_; (case hm => first | with_reducible assumption | repeat (first | exact .head _ | apply mT)); (case hv => first | rfl | with_reducible assumption)) | (refine' xAn rfl rfl rfl inferInstance ?hm ?hv ?hn ?ha ?_; (case hm => first | with_reducible assumption | repeat (first | exact .head _ | apply mT)); (case hv => first | with_reducible assumption | (simp only [kC, kD, kE, kF]; try rfl)); (case hn => first | rfl | simp)) | (refine' xAj rfl rfl rfl inferInstance ?hm ?hv ?ha ?_; (case hm => first | with_reducible assumption | repeat (first | exact .head _ | apply mT)); (case hv => first | rfl | with_reducible assumption)) | ((first | refine' xAd (by decide) rfl rfl rfl rfl (fun w => ?hq) ?ha ?_ | refine' xBf (by decide) rfl rfl rfl rfl (fun w => ?hq) ?ha ?_ | refine' xAp (by decide) rfl rfl rfl (fun w => ?hq) ?ha ?_ | refine' xAe (by decide) rfl rfl rfl (fun w => ?hq) ?ha ?_ | refine' xAo (by decide) rfl rfl rfl (fun w => ?hq) ?ha ?_ | refine' xBd (by decide) rfl rfl rfl rfl (fun w => ?hq) ?ha ?_ | refine' xBc (by decide) rfl rfl rfl rfl rfl rfl (fun w => ?hq) ?ha ?_ | refine' xBb (by decide) rfl rfl (fun w => ?hq) ?ha ?_ | refine' xAq (by decide) rfl rfl rfl (fun w => ?hq) ?ha ?_ | refine' xBe (by decide) rfl rfl rfl (fun w => ?hq) ?ha ?_); (case hq => go_simp; try rfl)) | (refine' xAh (by decide) rfl rfl rfl ?ha ?_) | (refine' xBl (by decide) rfl rfl rfl rfl ?ha ?_) | (refine' xBk (by decide) rfl ?ha ?_) | (refine' hd_callK rfl rfl rfl (xBi Tryz.func115 (by kernel_rfl) (by kernel_rfl) _) (fun L' w hL hw => m1 (hL _ (List.Mem.head _)) hw) ?ha ?_)); try (case ha => simp only [kP, kQ, kA, kB]; try rfl))
        refine xBs (hK _ _ ?_)
        clear hK K
        refine' news_one 18 84 _ (by kernel_rfl) ?zo ?zd ?zi (fun b => ?_)
        case zo => rfl
        case zd => rfl
        case zi => exact isNew2 rfl rfl
        simp only [kP, kQ, kA, kB]
        refine' newsHeads _ [2, 2, 2, 2, 2, 2, 2, 2, 2, 2, 2, 2, 2, 2, 2, 2, 2, 2, 2, 1, 2, 2, 1, 1, 1, 2] 1 rfl ?hk1 (fun p hp => hp) rfl (by kernel_rfl) (fun K hK => ?_)
        case hk1 => first | exact (fun p hp => .tail _ hp) | exact (fun p hp => .tail _ (.tail _ hp)) | exact (fun p hp => hp) | exact (fun p hp => nomatch hp)
        repeat ((first | (refine xBj ?_) | (refine' xAs (by decide) rfl (.inl rfl) rfl ?ha ?_) | (refine' xAs (by decide) rfl (.inr rfl) rfl ?ha ?_) | (refine' xAr rfl rfl rfl inferInstance ?hm ?hn ?ha ?_; (case hm => first | with_reducible assumption | repeat (first | exact .head _ | apply mT)); (case hn => first | rfl | simp)) | (refine' xAm rfl rfl rfl inferInstance ?hm ?hv ?hn ?ha ?_; (case hm => first | with_reducible assumption | repeat (first | exact .head _ | apply mT)); (case hv => first | with_reducible assumption | (simp only [kC, kD, kE, kF]; try rfl)); (case hn => first | rfl | simp)) | (refine' xAi rfl rfl rfl inferInstance ?hm ?hv ?ha ?_; (case hm => first | with_reducible assumption | repeat (first | exact .head _ | apply mT)); (case hv => first | rfl | with_reducible assumption)) | (refine' xAn rfl rfl rfl inferInstance ?hm ?hv ?hn ?ha ?_; (case hm => first | with_reducible assumption | repeat (first | exact .head _ | apply mT)); (case hv => first | with_reducible assumption | (simp only [kC, kD, kE, kF]; try rfl)); (case hn => first | rfl | simp)) | (refine' xAj rfl rfl rfl inferInstance ?hm ?hv ?ha ?_; (case hm => first | with_reducible assumption | repeat (first | exact .head _ | apply mT)); (case hv => first | rfl | with_reducible assumption)) | ((first | refine' xAd (by decide) rfl rfl rfl rfl (fun w => ?hq) ?ha ?_ | refine' xBf (by decide) rfl rfl rfl rfl (fun w => ?hq) ?ha ?_ | refine' xAp (by decide) rfl rfl rfl (fun w => ?hq) ?ha ?_ | refine' xAe (by decide) rfl rfl rfl (fun w => ?hq) ?ha ?_ | refine' xAo (by decide) rfl rfl rfl (fun w => ?hq) ?ha ?_ | refine' xBd (by decide) rfl rfl rfl rfl (fun w => ?hq) ?ha ?_ | refine' xBc (by decide) rfl rfl rfl rfl rfl rfl (fun w => ?hq) ?ha ?_ | refine' xBb (by decide) rfl rfl (fun w => ?hq) ?ha ?_ | refine' xAq (by decide) rfl rfl rfl (fun w => ?hq) ?ha ?_ | refine' xBe (by decide) rfl rfl rfl (fun w => ?hq) ?ha ?_); (case hq => go_simp; try rfl)) | (refine' xAh (by decide) rfl rfl rfl ?ha ?_) | (refine' xBl (by decide) rfl rfl rfl rfl ?ha ?_) | (refine' xBk (by decide) rfl ?ha ?_) | (refine' hd_callK rfl rfl rfl (xBi Tryz.func115 (by kernel_rfl) (by kernel_rfl) _) (fun L' w hL hw => m2 (hL _ (List.Mem.head _)) hw) ?ha ?_)); try (case ha => simp only [kP, kQ, kA, kB]; try rfl))
        refine xBs (hK _ _ ?_)
        clear hK K
        refine' news_tail 25 ?ho (by kernel_rfl) rfl ?_
        case ho => rfl
        refine xBx (fun Q hQ => ?_)
        repeat ((first | refine' xBa rfl (.inl rfl) rfl ?hk ?ha ?_ | refine' xBa rfl (.inr rfl) rfl ?hk ?ha ?_ | (refine' xAv rfl rfl rfl inferInstance rfl ?hs rfl rfl ?hn ?hk ?ha ?_; (case hs => repeat (first | exact xAx.head | apply xAx.tail)); (case hn => first | rfl | simp)) | (refine' xAl rfl rfl rfl inferInstance rfl rfl ?hs ?hn ?hl ?hk ?ha ?_; (case hs => repeat (first | exact xAx.head | apply xAx.tail)); (case hn => first | exact oD rfl | (show _ < 4; with_reducible assumption) | (simp; try omega)); (case hl => first | with_reducible assumption | (simp only [nl, kA, kB]; first | done | rfl) | rfl)) | (refine' xAw rfl rfl rfl inferInstance rfl rfl ?hvn ?hs ?hn ?hl ?hk ?ha ?_; (case hvn => first | rfl | simp); (case hs => repeat (first | exact xAx.head | apply xAx.tail)); (case hn => first | exact oD rfl | (show _ < 4; with_reducible assumption) | (simp; try omega)); (case hl => first | with_reducible assumption | (simp only [nl, kA, kB]; first | done | rfl) | rfl)) | (refine' xBm rfl (fun w => ?hq) ?hk ?ha ?_; (case hq => go_simp; try rfl))); (case hk => intro p hp; first | exact absurd hp List.not_mem_nil | (obtain rfl := List.mem_singleton.1 hp; repeat (first | exact List.Mem.head _ | apply mT))); (case ha => simp only [Act.put, kA, kB, List.setIfInBounds_toArray]; try rfl))
        refine xBw (fun w hR => hQ _ _ ?_)
        clear hQ Q
        replace hR := (hR.weaken (List.sublist_cons_self _ _)).weaken (List.sublist_cons_self _ _)
        go_wp2_with (first | (refine' xAb hR rfl rfl rfl ?_; clear hR; intro blk w hR) | (refine' xAa hR rfl rfl inferInstance ?_; clear hR; intro blk w hR) | (refine' aAq hR rfl rfl rfl inferInstance ?_) | (refine' aBq hR rfl rfl rfl inferInstance ?_) | (refine' aCq hR rfl rfl rfl inferInstance ?_) | (refine' aDq hR rfl rfl rfl inferInstance rfl ?_; clear hR; intro w hR) | (refine' aEq hR rfl rfl rfl inferInstance rfl rfl ?_; clear hR; intro w hR) | fail)
        exact hK.out _ _ (xAu rfl rfl rfl) hR
      case nb =>
        refine' news_one 11 77 _ (by kernel_rfl) ?zo ?zd ?zi (fun b => ?_)
        case zo => rfl
        case zd => rfl
        case zi => exact isNew2 rfl rfl
        simp only [kP, kQ, kA, kB]
        refine' newsHeads _ [2, 2, 2, 2, 2, 2, 2, 2, 2, 2, 2, 2, 1, 2, 2, 1, 1, 2, 2, 1, 2, 2, 1, 1, 1, 2] 1 rfl ?hk1 (fun p hp => hp) rfl (by kernel_rfl) (fun K hK => ?_)
        case hk1 => first | exact (fun p hp => .tail _ hp) | exact (fun p hp => .tail _ (.tail _ hp)) | exact (fun p hp => hp) | exact (fun p hp => nomatch hp)
        repeat ((first | (refine xBj ?_) | (refine' xAs (by decide) rfl (.inl rfl) rfl ?ha ?_) | (refine' xAs (by decide) rfl (.inr rfl) rfl ?ha ?_) | (refine' xAr rfl rfl rfl inferInstance ?hm ?hn ?ha ?_; (case hm => first | with_reducible assumption | repeat (first | exact .head _ | apply mT)); (case hn => first | rfl | simp)) | (refine' xAm rfl rfl rfl inferInstance ?hm ?hv ?hn ?ha ?_; (case hm => first | with_reducible assumption | repeat (first | exact .head _ | apply mT)); (case hv => first | with_reducible assumption | (simp only [kC, kD, kE, kF]; try rfl)); (case hn => first | rfl | simp)) | (refine' xAi rfl rfl rfl inferInstance ?hm ?hv ?ha ?_; (case hm => first | with_reducible assumption | repeat (first | exact .head _ | apply mT)); (case hv => first | rfl | with_reducible assumption)) | (refine' xAn rfl rfl rfl inferInstance ?hm ?hv ?hn ?ha ?_; (case hm => first | with_reducible assumption | repeat (first | exact .head _ | apply mT)); (case hv => first | with_reducible assumption | (simp only [kC, kD, kE, kF]; try rfl)); (case hn => first | rfl | simp)) | (refine' xAj rfl rfl rfl inferInstance ?hm ?hv ?ha ?_; (case hm => first | with_reducible assumption | repeat (first | exact .head _ | apply mT)); (case hv => first | rfl | with_reducible assumption)) | ((first | refine' xAd (by decide) rfl rfl rfl rfl (fun w => ?hq) ?ha ?_ | refine' xBf (by decide) rfl rfl rfl rfl (fun w => ?hq) ?ha ?_ | refine' xAp (by decide) rfl rfl rfl (fun w => ?hq) ?ha ?_ | refine' xAe (by decide) rfl rfl rfl (fun w => ?hq) ?ha ?_ | refine' xAo (by decide) rfl rfl rfl (fun w => ?hq) ?ha ?_ | refine' xBd (by decide) rfl rfl rfl rfl (fun w => ?hq) ?ha ?_ | refine' xBc (by decide) rfl rfl rfl rfl rfl rfl (fun w => ?hq) ?ha ?_ | refine' xBb (by decide) rfl rfl (fun w => ?hq) ?ha ?_ | refine' xAq (by decide) rfl rfl rfl (fun w => ?hq) ?ha ?_ | refine' xBe (by decide) rfl rfl rfl (fun w => ?hq) ?ha ?_); (case hq => go_simp; try rfl)) | (refine' xAh (by decide) rfl rfl rfl ?ha ?_) | (refine' xBl (by decide) rfl rfl rfl rfl ?ha ?_) | (refine' xBk (by decide) rfl ?ha ?_) | (refine' hd_callK rfl rfl rfl (xBi Tryz.func115 (by kernel_rfl) (by kernel_rfl) _) (fun L' w hL hw => m1 (hL _ (List.Mem.head _)) hw) ?ha ?_) | (refine' hd_callK rfl rfl rfl (xBi Tryz.func115 (by kernel_rfl) (by kernel_rfl) _) (fun L' w hL hw => m2 (hL _ (mT _ (List.Mem.head _))) hw) ?ha ?_)); try (case ha => simp only [kP, kQ, kA, kB]; try rfl))
        refine xBs (hK _ _ ?_)
        clear hK K
        refine' news_tail 25 ?ho (by kernel_rfl) rfl ?_
        case ho => rfl
        refine xBx (fun Q hQ => ?_)
        repeat ((first | refine' xBa rfl (.inl rfl) rfl ?hk ?ha ?_ | refine' xBa rfl (.inr rfl) rfl ?hk ?ha ?_ | (refine' xAv rfl rfl rfl inferInstance rfl ?hs rfl rfl ?hn ?hk ?ha ?_; (case hs => repeat (first | exact xAx.head | apply xAx.tail)); (case hn => first | rfl | simp)) | (refine' xAl rfl rfl rfl inferInstance rfl rfl ?hs ?hn ?hl ?hk ?ha ?_; (case hs => repeat (first | exact xAx.head | apply xAx.tail)); (case hn => first | exact oD rfl | (show _ < 4; with_reducible assumption) | (simp; try omega)); (case hl => first | with_reducible assumption | (simp only [nl, kA, kB]; first | done | rfl) | rfl)) | (refine' xAw rfl rfl rfl inferInstance rfl rfl ?hvn ?hs ?hn ?hl ?hk ?ha ?_; (case hvn => first | rfl | simp); (case hs => repeat (first | exact xAx.head | apply xAx.tail)); (case hn => first | exact oD rfl | (show _ < 4; with_reducible assumption) | (simp; try omega)); (case hl => first | with_reducible assumption | (simp only [nl, kA, kB]; first | done | rfl) | rfl)) | (refine' xBm rfl (fun w => ?hq) ?hk ?ha ?_; (case hq => go_simp; try rfl))); (case hk => intro p hp; first | exact absurd hp List.not_mem_nil | (obtain rfl := List.mem_singleton.1 hp; repeat (first | exact List.Mem.head _ | apply mT))); (case ha => simp only [Act.put, kA, kB, List.setIfInBounds_toArray]; try rfl))
        refine xBw (fun w hR => hQ _ _ ?_)
        clear hQ Q
        replace hR := (hR.weaken (List.sublist_cons_self _ _)).weaken (List.sublist_cons_self _ _)
        go_wp2_with (first | (refine' xAb hR rfl rfl rfl ?_; clear hR; intro blk w hR) | (refine' xAa hR rfl rfl inferInstance ?_; clear hR; intro blk w hR) | (refine' aAq hR rfl rfl rfl inferInstance ?_) | (refine' aBq hR rfl rfl rfl inferInstance ?_) | (refine' aCq hR rfl rfl rfl inferInstance ?_) | (refine' aDq hR rfl rfl rfl inferInstance rfl ?_; clear hR; intro w hR) | (refine' aEq hR rfl rfl rfl inferInstance rfl rfl ?_; clear hR; intro w hR) | fail)
        exact hK.out _ _ (xAu rfl rfl rfl) hR
  case he =>
    clear hR
    obtain ⟨bw, hbw⟩ : ∃ x, x = blk := ⟨_, rfl⟩
    subst hbw
    intro tm w ht hR K
    simp only [Int.natCast_zero, Int.sub_zero] at ht
    simp only [Nat.sub_zero] at hR
    repeat (first | (obtain ⟨x, tm', e, ht'⟩ := xAf ht; clear ht; subst e; have ht := ht'; clear ht') | (obtain ⟨tm', e, ht'⟩ := xAc ht; clear ht; subst e; have ht := ht'; clear ht'))
    obtain rfl := xAk ht
    clear ht
    have cs := fun w => steps_any w
    go_wp2_with (first | (refine' xAb hR rfl rfl rfl ?_; clear hR; intro blk w hR) | (refine' xAa hR rfl rfl inferInstance ?_; clear hR; intro blk w hR) | (refine' aAq hR rfl rfl rfl inferInstance ?_) | (refine' aBq hR rfl rfl rfl inferInstance ?_) | (refine' aCq hR rfl rfl rfl inferInstance ?_) | (refine' aDq hR rfl rfl rfl inferInstance rfl ?_; clear hR; intro w hR) | (refine' aEq hR rfl rfl rfl inferInstance rfl rfl ?_; clear hR; intro w hR) | (go_at_call 116; refine (cs _).mono ?_; rintro e w ⟨rfl, hb⟩; replace hR := hR.call hb; clear hb))
    clear cs
    rename_i K1 k1
    have wok := wAt_lt hb
    refine' xCa (false :: false :: false :: false :: false :: false :: false :: false :: false :: false :: true :: true :: true :: true :: true :: true :: true :: true :: true :: true :: true :: false :: false :: false :: false :: false :: false :: false :: false :: false :: false :: false :: false :: false :: false :: false :: false :: false :: false :: false :: false :: false :: false :: false :: false :: false :: false :: false :: false :: false :: false :: false :: false :: false :: false :: false :: false :: false :: false :: false :: false :: false :: false :: false :: false :: false :: false :: false :: false :: false :: false :: false :: false :: false :: false :: false :: false :: false :: false :: false :: false :: false :: false :: false :: false :: false :: false :: false :: false :: false :: false :: false :: false :: false :: false :: true :: true :: true :: true :: true :: true :: true :: true :: true :: true :: true :: true :: true :: true :: true :: true :: true :: true :: true :: true :: true :: true :: true :: true :: true :: true :: true :: true :: true :: true :: true :: true :: true :: true :: true :: true :: true :: true :: true :: true :: true :: true :: true :: true :: true :: true :: true :: true :: true :: true :: true :: true :: true :: true :: true :: true :: true :: true :: true :: true :: true :: true :: true :: true :: true :: true :: false :: false :: false :: false :: false :: false :: false :: false :: false :: false :: false :: false :: false :: []) (fun j l => l.set 94 (.int .i64 ((64 : Int) - (j : Int)))) (fun j => [(blk, .cells (s8L (runN s (sched b 64) (64 - j))).toArray 112), (bw, .cells (wRow b 64).toArray 128), (b3', .cells (s8L zeroS).toArray 112), (b2', .cells (u8s 64 b).toArray 114), (b1', .cells (s8L s).toArray 112)]) 64 ?h0 ?hR ?hs ?he
    case hR => exact hR
    case h0 => exact xAu rfl rfl rfl
    case hs =>
      clear hR
      intro j tm w hj ht hR K hK
      repeat (first | (obtain ⟨x, tm', e, ht'⟩ := xAf ht; clear ht; subst e; have ht := ht'; clear ht') | (obtain ⟨tm', e, ht'⟩ := xAc ht; clear ht; subst e; have ht := ht'; clear ht'))
      obtain rfl := xAk ht
      clear ht
      obtain ⟨k, hk⟩ : ∃ k, 64 - (j + 1) = k := ⟨_, rfl⟩
      have e1 : (64 : Int) - ((j + 1 : Nat) : Int) = (k : Int) := by omega
      have e2 : (64 : Int) - (j : Int) = (k : Int) + 1 := by omega
      have e3 : 64 - j = k + 1 := by omega
      rw [hk] at hR
      simp only [e2, e3] at hK
      rw [e1]
      have k64 : k < 64 := by omega
      clear e1 e2 e3 hk hj
      have g0 : 0 ≤ (k : Int) := by omega
      have g1 : (k : Int) < 64 := by omega
      have hix := fun w => index_row (P := Tryz.prog) (ty := 128) (el := 110) (n := 64) Tryz.underlying128 inferInstance (cs := (u32s 64 stepF).toArray) (k := k) (v := .int .u32 (stepF k : Int)) k64 (by simpa using u32s_at k64) w
      have ok := runN_ok hs (sched b 64) k
      have hrun : runN s (sched b 64) (k + 1) = roundN (runN s (sched b 64) k) (stepF k) (wAt b k) := by rw [stepF_def, wAt_def]; rfl
      have dw := wRow_at (b := b) (i := 64) (k := k) k64 k64
      have vk := stepF_lt k
      have vw := wok k
      generalize runN s (sched b 64) k = st at *
      generalize runN s (sched b 64) (k + 1) = st' at *
      generalize stepF k = sk at *
      generalize wAt b k = wk at *
      obtain ⟨a, b', c, d, e, f, g, h⟩ := st
      obtain ⟨oa, ob, oc, od, oe, of, og, oh⟩ := ok
      simp only at oa ob oc od oe of og oh
      replace hR : Rep _ _ [_, _, _, _, _] _ := hR
      change Rep _ _ [(blk, .cells (s8V a b' c d e f g h).toArray 112), _, _, _, _] _ at hR
      obtain ⟨r1, r2, x1, y1, y2, y3, x2, x3, t, z1, z2, z3, z4, z5, u1, u, d', hr1, hr2, q1, q2, q3, q4, q5, q6, q7, p1, p2, p3, p4, p5, p6, p7, p8, hst⟩ := round_facts a b' c d e f g h sk wk oa ob oc oe of og
      rw [hst] at hrun
      have m3 := @mix_3 e r1 oe hr1
      have m4 := @mix_4 a r2 oa hr2
      rw [hrun] at hK
      clear hst hrun hr1 hr2
      go_wp2_with (first | (refine' xAb hR rfl rfl rfl ?_; clear hR; intro blk w hR) | (refine' xAa hR rfl rfl inferInstance ?_; clear hR; intro blk w hR) | (refine' aAq hR rfl rfl rfl inferInstance ?_) | (refine' aBq hR rfl rfl rfl inferInstance ?_) | (refine' aCq hR rfl rfl rfl inferInstance ?_) | (refine' aDq hR rfl rfl rfl inferInstance rfl ?_; clear hR; intro w hR) | (refine' aEq hR rfl rfl rfl inferInstance rfl rfl ?_; clear hR; intro w hR) | fail)
      refine xAg hR [0, 0, 1, 1, 1, 1, 1, 1, 1, 1, 1, 1, 1, 1, 1, 1, 2, 2, 2, 2, 2, 2, 2, 2] [0] xCt (by kernel_rfl) rfl rfl (fun K hK => ?_)
      clear hR
      repeat ((first | (refine xBj ?_) | (refine' xAs (by decide) rfl (.inl rfl) rfl ?ha ?_) | (refine' xAs (by decide) rfl (.inr rfl) rfl ?ha ?_) | (refine' xAr rfl rfl rfl inferInstance ?hm ?hn ?ha ?_; (case hm => first | with_reducible assumption | repeat (first | exact .head _ | apply mT)); (case hn => first | rfl | simp)) | (refine' xAm rfl rfl rfl inferInstance ?hm ?hv ?hn ?ha ?_; (case hm => first | with_reducible assumption | repeat (first | exact .head _ | apply mT)); (case hv => first | with_reducible assumption | (simp only [kC, kD, kE, kF]; try rfl)); (case hn => first | rfl | simp)) | (refine' xAi rfl rfl rfl inferInstance ?hm ?hv ?ha ?_; (case hm => first | with_reducible assumption | repeat (first | exact .head _ | apply mT)); (case hv => first | rfl | with_reducible assumption)) | (refine' xAn rfl rfl rfl inferInstance ?hm ?hv ?hn ?ha ?_; (case hm => first | with_reducible assumption | repeat (first | exact .head _ | apply mT)); (case hv => first | with_reducible assumption | (simp only [kC, kD, kE, kF]; try rfl)); (case hn => first | rfl | simp)) | (refine' xAj rfl rfl rfl inferInstance ?hm ?hv ?ha ?_; (case hm => first | with_reducible assumption | repeat (first | exact .head _ | apply mT)); (case hv => first | rfl | with_reducible assumption)) | ((first | refine' xAd (by decide) rfl rfl rfl rfl (fun w => ?hq) ?ha ?_ | refine' xBf (by decide) rfl rfl rfl rfl (fun w => ?hq) ?ha ?_ | refine' xAp (by decide) rfl rfl rfl (fun w => ?hq) ?ha ?_ | refine' xAe (by decide) rfl rfl rfl (fun w => ?hq) ?ha ?_ | refine' xAo (by decide) rfl rfl rfl (fun w => ?hq) ?ha ?_ | refine' xBd (by decide) rfl rfl rfl rfl (fun w => ?hq) ?ha ?_ | refine' xBc (by decide) rfl rfl rfl rfl rfl rfl (fun w => ?hq) ?ha ?_ | refine' xBb (by decide) rfl rfl (fun w => ?hq) ?ha ?_ | refine' xAq (by decide) rfl rfl rfl (fun w => ?hq) ?ha ?_ | refine' xBe (by decide) rfl rfl rfl (fun w => ?hq) ?ha ?_); (case hq => go_simp; try rfl)) | (refine' xAh (by decide) rfl rfl rfl ?ha ?_) | (refine' xBl (by decide) rfl rfl rfl rfl ?ha ?_) | (refine' xBk (by decide) rfl ?ha ?_) | fail); try (case ha => simp only [kP, kQ, kA, kB]; try rfl))
      refine xBs (hK _ _ ?_)
      clear hK K
      refine xBx (fun Q hQ => ?_)
      try simp only [List.nil_append, List.cons_append]
      repeat ((first | refine' xBa rfl (.inl rfl) rfl ?hk ?ha ?_ | refine' xBa rfl (.inr rfl) rfl ?hk ?ha ?_ | (refine' xAv rfl rfl rfl inferInstance rfl ?hs rfl rfl ?hn ?hk ?ha ?_; (case hs => repeat (first | exact xAx.head | apply xAx.tail)); (case hn => first | rfl | simp)) | (refine' xAl rfl rfl rfl inferInstance rfl rfl ?hs ?hn ?hl ?hk ?ha ?_; (case hs => repeat (first | exact xAx.head | apply xAx.tail)); (case hn => first | exact oD rfl | (show _ < 4; with_reducible assumption) | (simp; try omega)); (case hl => first | with_reducible assumption | (simp only [nl, kA, kB]; first | done | rfl) | rfl)) | (refine' xAw rfl rfl rfl inferInstance rfl rfl ?hvn ?hs ?hn ?hl ?hk ?ha ?_; (case hvn => first | rfl | simp); (case hs => repeat (first | exact xAx.head | apply xAx.tail)); (case hn => first | exact oD rfl | (show _ < 4; with_reducible assumption) | (simp; try omega)); (case hl => first | with_reducible assumption | (simp only [nl, kA, kB]; first | done | rfl) | rfl)) | (refine' xBm rfl (fun w => ?hq) ?hk ?ha ?_; (case hq => go_simp; try rfl))); (case hk => intro p hp; first | exact absurd hp List.not_mem_nil | (obtain rfl := List.mem_singleton.1 hp; repeat (first | exact List.Mem.head _ | apply mT))); (case ha => simp only [kP, kQ, kA, kB]; try rfl))
      refine xBw (fun w hR => hQ _ _ ?_)
      clear hQ Q
      go_wp2_with (first | (refine' xAb hR rfl rfl rfl ?_; clear hR; intro blk w hR) | (refine' xAa hR rfl rfl inferInstance ?_; clear hR; intro blk w hR) | (refine' aAq hR rfl rfl rfl inferInstance ?_) | (refine' aBq hR rfl rfl rfl inferInstance ?_) | (refine' aCq hR rfl rfl rfl inferInstance ?_) | (refine' aDq hR rfl rfl rfl inferInstance rfl ?_; clear hR; intro w hR) | (refine' aEq hR rfl rfl rfl inferInstance rfl rfl ?_; clear hR; intro w hR) | fail)
      refine wp_region_news hR [19] 20 xCt rfl ?_
      clear hR
      refine' newsHeads _ [1, 1, 2, 2, 2, 1, 1, 1, 1, 1, 1, 1, 2, 1, 2, 1, 1, 1, 2, 2] 7 rfl ?hk1 (fun p hp => hp) rfl (by kernel_rfl) (fun K hK => ?_)
      case hk1 => first | exact (fun p hp => .tail _ hp) | exact (fun p hp => .tail _ (.tail _ hp)) | exact (fun p hp => hp) | exact (fun p hp => nomatch hp)
      repeat ((first | (refine xBj ?_) | (refine' xAs (by decide) rfl (.inl rfl) rfl ?ha ?_) | (refine' xAs (by decide) rfl (.inr rfl) rfl ?ha ?_) | (refine' xAr rfl rfl rfl inferInstance ?hm ?hn ?ha ?_; (case hm => first | with_reducible assumption | repeat (first | exact .head _ | apply mT)); (case hn => first | rfl | simp)) | (refine' xAm rfl rfl rfl inferInstance ?hm ?hv ?hn ?ha ?_; (case hm => first | with_reducible assumption | repeat (first | exact .head _ | apply mT)); (case hv => first | with_reducible assumption | (simp only [kC, kD, kE, kF]; try rfl)); (case hn => first | rfl | simp)) | (refine' xAi rfl rfl rfl inferInstance ?hm ?hv ?ha ?_; (case hm => first | with_reducible assumption | repeat (first | exact .head _ | apply mT)); (case hv => first | rfl | with_reducible assumption)) | (refine' xAn rfl rfl rfl inferInstance ?hm ?hv ?hn ?ha ?_; (case hm => first | with_reducible assumption | repeat (first | exact .head _ | apply mT)); (case hv => first | with_reducible assumption | (simp only [kC, kD, kE, kF]; try rfl)); (case hn => first | rfl | simp)) | (refine' xAj rfl rfl rfl inferInstance ?hm ?hv ?ha ?_; (case hm => first | with_reducible assumption | repeat (first | exact .head _ | apply mT)); (case hv => first | rfl | with_reducible assumption)) | ((first | refine' xAd (by decide) rfl rfl rfl rfl (fun w => ?hq) ?ha ?_ | refine' xBf (by decide) rfl rfl rfl rfl (fun w => ?hq) ?ha ?_ | refine' xAp (by decide) rfl rfl rfl (fun w => ?hq) ?ha ?_ | refine' xAe (by decide) rfl rfl rfl (fun w => ?hq) ?ha ?_ | refine' xAo (by decide) rfl rfl rfl (fun w => ?hq) ?ha ?_ | refine' xBd (by decide) rfl rfl rfl rfl (fun w => ?hq) ?ha ?_ | refine' xBc (by decide) rfl rfl rfl rfl rfl rfl (fun w => ?hq) ?ha ?_ | refine' xBb (by decide) rfl rfl (fun w => ?hq) ?ha ?_ | refine' xAq (by decide) rfl rfl rfl (fun w => ?hq) ?ha ?_ | refine' xBe (by decide) rfl rfl rfl (fun w => ?hq) ?ha ?_); (case hq => go_simp; try rfl)) | (refine' xAh (by decide) rfl rfl rfl ?ha ?_) | (refine' xBl (by decide) rfl rfl rfl rfl ?ha ?_) | (refine' xBk (by decide) rfl ?ha ?_) | fail); try (case ha => simp only [kP, kQ, kA, kB]; try rfl))
      refine xBs (hK _ _ ?_)
      clear hK K
      refine' news_one 2 116 _ (by kernel_rfl) ?zo ?zd ?zi (fun b => ?_)
      case zo => rfl
      case zd => rfl
      case zi => exact isNew3 rfl rfl
      simp only [kP, kQ, kA, kB]
      refine' newsHeads _ [2, 2, 2, 1, 1, 2, 2, 2, 2, 2, 2, 2, 1, 2, 1, 2, 2, 2, 1, 2] 1 rfl ?hk1 (fun p hp => hp) rfl (by kernel_rfl) (fun K hK => ?_)
      case hk1 => first | exact (fun p hp => .tail _ hp) | exact (fun p hp => .tail _ (.tail _ hp)) | exact (fun p hp => hp) | exact (fun p hp => nomatch hp)
      repeat ((first | (refine xBj ?_) | (refine' xAs (by decide) rfl (.inl rfl) rfl ?ha ?_) | (refine' xAs (by decide) rfl (.inr rfl) rfl ?ha ?_) | (refine' xAr rfl rfl rfl inferInstance ?hm ?hn ?ha ?_; (case hm => first | with_reducible assumption | repeat (first | exact .head _ | apply mT)); (case hn => first | rfl | simp)) | (refine' xAm rfl rfl rfl inferInstance ?hm ?hv ?hn ?ha ?_; (case hm => first | with_reducible assumption | repeat (first | exact .head _ | apply mT)); (case hv => first | with_reducible assumption | (simp only [kC, kD, kE, kF]; try rfl)); (case hn => first | rfl | simp)) | (refine' xAi rfl rfl rfl inferInstance ?hm ?hv ?ha ?_; (case hm => first | with_reducible assumption | repeat (first | exact .head _ | apply mT)); (case hv => first | rfl | with_reducible assumption)) | (refine' xAn rfl rfl rfl inferInstance ?hm ?hv ?hn ?ha ?_; (case hm => first | with_reducible assumption | repeat (first | exact .head _ | apply mT)); (case hv => first | with_reducible assumption | (simp only [kC, kD, kE, kF]; try rfl)); (case hn => first | rfl | simp)) | (refine' xAj rfl rfl rfl inferInstance ?hm ?hv ?ha ?_; (case hm => first | with_reducible assumption | repeat (first | exact .head _ | apply mT)); (case hv => first | rfl | with_reducible assumption)) | ((first | refine' xAd (by decide) rfl rfl rfl rfl (fun w => ?hq) ?ha ?_ | refine' xBf (by decide) rfl rfl rfl rfl (fun w => ?hq) ?ha ?_ | refine' xAp (by decide) rfl rfl rfl (fun w => ?hq) ?ha ?_ | refine' xAe (by decide) rfl rfl rfl (fun w => ?hq) ?ha ?_ | refine' xAo (by decide) rfl rfl rfl (fun w => ?hq) ?ha ?_ | refine' xBd (by decide) rfl rfl rfl rfl (fun w => ?hq) ?ha ?_ | refine' xBc (by decide) rfl rfl rfl rfl rfl rfl (fun w => ?hq) ?ha ?_ | refine' xBb (by decide) rfl rfl (fun w => ?hq) ?ha ?_ | refine' xAq (by decide) rfl rfl rfl (fun w => ?hq) ?ha ?_ | refine' xBe (by decide) rfl rfl rfl (fun w => ?hq) ?ha ?_); (case hq => go_simp; try rfl)) | (refine' xAh (by decide) rfl rfl rfl ?ha ?_) | (refine' xBl (by decide) rfl rfl rfl rfl ?ha ?_) | (refine' xBk (by decide) rfl ?ha ?_) | (refine' hd_callK rfl rfl rfl (xBi Tryz.func115 (by kernel_rfl) (by kernel_rfl) _) (fun L' w hL hw => m3 (hL _ (List.Mem.head _)) hw) ?ha ?_)); try (case ha => simp only [kP, kQ, kA, kB]; try rfl))
      refine xBs (hK _ _ ?_)
      clear hK K
      refine' news_tail 19 ?ho (by kernel_rfl) rfl ?_
      case ho => rfl
      refine xBx (fun Q hQ => ?_)
      repeat ((first | refine' xBa rfl (.inl rfl) rfl ?hk ?ha ?_ | refine' xBa rfl (.inr rfl) rfl ?hk ?ha ?_ | (refine' xAv rfl rfl rfl inferInstance rfl ?hs rfl rfl ?hn ?hk ?ha ?_; (case hs => repeat (first | exact xAx.head | apply xAx.tail)); (case hn => first | rfl | simp)) | (refine' xAl rfl rfl rfl inferInstance rfl rfl ?hs ?hn ?hl ?hk ?ha ?_; (case hs => repeat (first | exact xAx.head | apply xAx.tail)); (case hn => first | exact oD rfl | (show _ < 4; with_reducible assumption) | (simp; try omega)); (case hl => first | with_reducible assumption | (simp only [nl, kA, kB]; first | done | rfl) | rfl)) | (refine' xAw rfl rfl rfl inferInstance rfl rfl ?hvn ?hs ?hn ?hl ?hk ?ha ?_; (case hvn => first | rfl | simp); (case hs => repeat (first | exact xAx.head | apply xAx.tail)); (case hn => first | exact oD rfl | (show _ < 4; with_reducible assumption) | (simp; try omega)); (case hl => first | with_reducible assumption | (simp only [nl, kA, kB]; first | done | rfl) | rfl)) | (refine' xBm rfl (fun w => ?hq) ?hk ?ha ?_; (case hq => go_simp; try rfl))); (case hk => intro p hp; first | exact absurd hp List.not_mem_nil | (obtain rfl := List.mem_singleton.1 hp; repeat (first | exact List.Mem.head _ | apply mT))); (case ha => simp only [Act.put, kA, kB, List.setIfInBounds_toArray]; try rfl))
      refine xBw (fun w hR => hQ _ _ ?_)
      clear hQ Q
      replace hR := hR.weaken (List.sublist_cons_self _ _)
      go_wp2_with (first | (refine' xAb hR rfl rfl rfl ?_; clear hR; intro blk w hR) | (refine' xAa hR rfl rfl inferInstance ?_; clear hR; intro blk w hR) | (refine' aAq hR rfl rfl rfl inferInstance ?_) | (refine' aBq hR rfl rfl rfl inferInstance ?_) | (refine' aCq hR rfl rfl rfl inferInstance ?_) | (refine' aDq hR rfl rfl rfl inferInstance rfl ?_; clear hR; intro w hR) | (refine' aEq hR rfl rfl rfl inferInstance rfl rfl ?_; clear hR; intro w hR) | (refine' wpList_new hR ?zi ?_; (case zi => exact isNew3 rfl rfl); clear hR; intro blk w hR) | (go_at_call 115; refine (m4 (List.Mem.head _) hR).mono ?_; clear hR; rintro e w ⟨rfl, hR⟩))
      replace hR := hR.weaken (List.sublist_cons_self _ _)
      exact hK.out _ _ (xAu rfl rfl rfl) hR
    case he =>
      clear hR
      intro tm w ht hR K
      simp only [Int.natCast_zero, Int.sub_zero] at ht
      simp only [Nat.sub_zero] at hR
      repeat (first | (obtain ⟨x, tm', e, ht'⟩ := xAf ht; clear ht; subst e; have ht := ht'; clear ht') | (obtain ⟨tm', e, ht'⟩ := xAc ht; clear ht; subst e; have ht := ht'; clear ht'))
      obtain rfl := xAk ht
      clear ht
      have ok := runN_ok hs (sched b 64) 64
      have hres : r = addS (runN s (sched b 64) 64) s := by rw [← hr.out]; unfold takeN; rfl
      clear hr
      clear wok
      generalize runN s (sched b 64) 64 = st at *
      replace hres := Held.mk hres
      rw [← sumRow_zero st s, s8L_row s] at hR
      go_wp2_with (first | (refine' xAb hR rfl rfl rfl ?_; clear hR; intro blk w hR) | (refine' xAa hR rfl rfl inferInstance ?_; clear hR; intro blk w hR) | (refine' aAq hR rfl rfl rfl inferInstance ?_) | (refine' aBq hR rfl rfl rfl inferInstance ?_) | (refine' aCq hR rfl rfl rfl inferInstance ?_) | (refine' aDq hR rfl rfl rfl inferInstance rfl ?_; clear hR; intro w hR) | (refine' aEq hR rfl rfl rfl inferInstance rfl rfl ?_; clear hR; intro w hR) | fail)
      refine' xCa (false :: false :: false :: false :: false :: false :: false :: false :: false :: false :: false :: false :: false :: false :: false :: false :: false :: false :: false :: false :: false :: true :: false :: false :: false :: false :: false :: false :: false :: false :: false :: false :: false :: false :: false :: false :: false :: false :: false :: false :: false :: false :: false :: false :: false :: false :: false :: false :: false :: false :: false :: false :: false :: false :: false :: false :: false :: false :: false :: false :: false :: false :: false :: false :: false :: false :: false :: false :: false :: false :: false :: false :: false :: false :: false :: false :: false :: false :: false :: false :: false :: false :: false :: false :: false :: false :: false :: false :: false :: false :: false :: false :: false :: false :: false :: false :: false :: false :: false :: false :: false :: false :: false :: false :: false :: false :: false :: false :: false :: false :: false :: false :: false :: false :: false :: false :: false :: false :: false :: false :: false :: false :: false :: false :: false :: false :: false :: false :: false :: false :: false :: false :: false :: false :: false :: false :: false :: false :: false :: false :: false :: false :: false :: false :: false :: false :: false :: false :: false :: false :: false :: false :: false :: false :: false :: false :: false :: false :: false :: false :: false :: false :: true :: true :: true :: true :: true :: true :: true :: true :: true :: true :: true :: false :: []) (fun j l => l.set 161 (.int .i64 ((8 : Int) - (j : Int)))) (fun j => [(blk, .cells (sumRow st s (8 - j)).toArray 112), (bw, .cells (wRow b 64).toArray 128), (b3', .cells (s8L zeroS).toArray 112), (b2', .cells (u8s 64 b).toArray 114), (b1', .cells (u32s 8 (getF s)).toArray 112)]) 8 ?h0 ?hR ?hs ?he
      case hR => exact hR
      case h0 => exact xAu rfl rfl rfl
      case hs =>
        clear hR
        intro j tm w hj ht hR K hK
        repeat (first | (obtain ⟨x, tm', e, ht'⟩ := xAf ht; clear ht; subst e; have ht := ht'; clear ht') | (obtain ⟨tm', e, ht'⟩ := xAc ht; clear ht; subst e; have ht := ht'; clear ht'))
        obtain rfl := xAk ht
        clear ht
        obtain ⟨k, hk⟩ : ∃ k, 8 - (j + 1) = k := ⟨_, rfl⟩
        have e1 : (8 : Int) - ((j + 1 : Nat) : Int) = (k : Int) := by omega
        have e2 : (8 : Int) - (j : Int) = (k : Int) + 1 := by omega
        have e3 : 8 - j = k + 1 := by omega
        rw [hk] at hR
        simp only [e2, e3] at hK
        rw [e1]
        have k8 : k < 8 := by omega
        clear e1 e2 e3 hk hj
        have g0 : 0 ≤ (k : Int) := by omega
        have g1 : (k : Int) < 8 := by omega
        have d1 := sumRow_at st s k8
        have d2 := u32s_at (w := getF s) k8
        have hset := sumRow_set st s (i := k) (x := (getF st k + getF s k) % 4294967296) rfl
        have q : IntKind.u32.wrap ((getF st k : Int) + (getF s k : Int)) = (((getF st k + getF s k) % 4294967296 : Nat) : Int) := by
          rw [IntKind.wrap_u32]; omega
        generalize (getF st k + getF s k) % 4294967296 = v at *
        generalize getF st k = v1 at *
        generalize getF s k = v2 at *
        go_wp2_with (first | (refine' xAb hR rfl rfl rfl ?_; clear hR; intro blk w hR) | (refine' xAa hR rfl rfl inferInstance ?_; clear hR; intro blk w hR) | (refine' aAq hR rfl rfl rfl inferInstance ?_) | (refine' aBq hR rfl rfl rfl inferInstance ?_) | (refine' aCq hR rfl rfl rfl inferInstance ?_) | (refine' aDq hR rfl rfl rfl inferInstance rfl ?_; clear hR; intro w hR) | (refine' aEq hR rfl rfl rfl inferInstance rfl rfl ?_; clear hR; intro w hR) | fail)
        refine xAg hR [0, 0, 0, 0, 0, 0, 0, 0, 2] [] xCt (by kernel_rfl) rfl rfl (fun K hK => ?_)
        clear hR
        repeat ((first | (refine xBj ?_) | (refine' xAs (by decide) rfl (.inl rfl) rfl ?ha ?_) | (refine' xAs (by decide) rfl (.inr rfl) rfl ?ha ?_) | (refine' xAr rfl rfl rfl inferInstance ?hm ?hn ?ha ?_; (case hm => first | with_reducible assumption | repeat (first | exact .head _ | apply mT)); (case hn => first | rfl | simp)) | (refine' xAm rfl rfl rfl inferInstance ?hm ?hv ?hn ?ha ?_; (case hm => first | with_reducible assumption | repeat (first | exact .head _ | apply mT)); (case hv => first | with_reducible assumption | (simp only [kC, kD, kE, kF]; try rfl)); (case hn => first | rfl | simp)) | (refine' xAi rfl rfl rfl inferInstance ?hm ?hv ?ha ?_; (case hm => first | with_reducible assumption | repeat (first | exact .head _ | apply mT)); (case hv => first | rfl | with_reducible assumption)) | (refine' xAn rfl rfl rfl inferInstance ?hm ?hv ?hn ?ha ?_; (case hm => first | with_reducible assumption | repeat (first | exact .head _ | apply mT)); (case hv => first | with_reducible assumption | (simp only [kC, kD, kE, kF]; try rfl)); (case hn => first | rfl | simp)) | (refine' xAj rfl rfl rfl inferInstance ?hm ?hv ?ha ?_; (case hm => first | with_reducible assumption | repeat (first | exact .head _ | apply mT)); (case hv => first | rfl | with_reducible assumption)) | ((first | refine' xAd (by decide) rfl rfl rfl rfl (fun w => ?hq) ?ha ?_ | refine' xBf (by decide) rfl rfl rfl rfl (fun w => ?hq) ?ha ?_ | refine' xAp (by decide) rfl rfl rfl (fun w => ?hq) ?ha ?_ | refine' xAe (by decide) rfl rfl rfl (fun w => ?hq) ?ha ?_ | refine' xAo (by decide) rfl rfl rfl (fun w => ?hq) ?ha ?_ | refine' xBd (by decide) rfl rfl rfl rfl (fun w => ?hq) ?ha ?_ | refine' xBc (by decide) rfl rfl rfl rfl rfl rfl (fun w => ?hq) ?ha ?_ | refine' xBb (by decide) rfl rfl (fun w => ?hq) ?ha ?_ | refine' xAq (by decide) rfl rfl rfl (fun w => ?hq) ?ha ?_ | refine' xBe (by decide) rfl rfl rfl (fun w => ?hq) ?ha ?_); (case hq => go_simp; try rfl)) | (refine' xAh (by decide) rfl rfl rfl ?ha ?_) | (refine' xBl (by decide) rfl rfl rfl rfl ?ha ?_) | (refine' xBk (by decide) rfl ?ha ?_) | fail); try (case ha => simp only [kP, kQ, kA, kB]; try rfl))
        refine xBs (hK _ _ ?_)
        clear hK K
        refine xBx (fun Q hQ => ?_)
        try simp only [List.nil_append, List.cons_append]
        repeat ((first | refine' xBa rfl (.inl rfl) rfl ?hk ?ha ?_ | refine' xBa rfl (.inr rfl) rfl ?hk ?ha ?_ | (refine' xAv rfl rfl rfl inferInstance rfl ?hs rfl rfl ?hn ?hk ?ha ?_; (case hs => repeat (first | exact xAx.head | apply xAx.tail)); (case hn => first | rfl | simp)) | (refine' xAl rfl rfl rfl inferInstance rfl rfl ?hs ?hn ?hl ?hk ?ha ?_; (case hs => repeat (first | exact xAx.head | apply xAx.tail)); (case hn => first | exact oD rfl | (show _ < 4; with_reducible assumption) | (simp; try omega)); (case hl => first | with_reducible assumption | (simp only [nl, kA, kB]; first | done | rfl) | rfl)) | (refine' xAw rfl rfl rfl inferInstance rfl rfl ?hvn ?hs ?hn ?hl ?hk ?ha ?_; (case hvn => first | rfl | simp); (case hs => repeat (first | exact xAx.head | apply xAx.tail)); (case hn => first | exact oD rfl | (show _ < 4; with_reducible assumption) | (simp; try omega)); (case hl => first | with_reducible assumption | (simp only [nl, kA, kB]; first | done | rfl) | rfl)) | (refine' xBm rfl (fun w => ?hq) ?hk ?ha ?_; (case hq => go_simp; try rfl))); (case hk => intro p hp; first | exact absurd hp List.not_mem_nil | (obtain rfl := List.mem_singleton.1 hp; repeat (first | exact List.Mem.head _ | apply mT))); (case ha => simp only [kP, kQ, kA, kB]; try rfl))
        refine xBw (fun w hR => hQ _ _ ?_)
        clear hQ Q
        go_wp2_with (first | (refine' xAb hR rfl rfl rfl ?_; clear hR; intro blk w hR) | (refine' xAa hR rfl rfl inferInstance ?_; clear hR; intro blk w hR) | (refine' aAq hR rfl rfl rfl inferInstance ?_) | (refine' aBq hR rfl rfl rfl inferInstance ?_) | (refine' aCq hR rfl rfl rfl inferInstance ?_) | (refine' aDq hR rfl rfl rfl inferInstance rfl ?_; clear hR; intro w hR) | (refine' aEq hR rfl rfl rfl inferInstance rfl rfl ?_; clear hR; intro w hR) | fail)
        exact hK.out _ _ (xAu rfl rfl rfl) hR
      case he =>
        clear hR
        skip
        intro tm w ht hR K
        simp only [Int.natCast_zero, Int.sub_zero] at ht
        simp only [Nat.sub_zero] at hR
        rw [sumRow_all] at hR
        repeat (first | (obtain ⟨x, tm', e, ht'⟩ := xAf ht; clear ht; subst e; have ht := ht'; clear ht') | (obtain ⟨tm', e, ht'⟩ := xAc ht; clear ht; subst e; have ht := ht'; clear ht'))
        obtain rfl := xAk ht
        clear ht
        rw [← hres.out] at hR
        clear hres
        go_wp2_with (first | (refine' aIq hR rfl rfl rfl ?_) | (refine' aJq hR rfl rfl rfl rfl rfl rfl ?_; clear hR; intro w hR; refine cutHere ?_))
        unfold Stop
        refine wpList_nil ?_
        simp only [Exit.then]
        rename_i Kz kz
        refine kz _ _ (wp_ret ?_)
        (refine' bodyPost_ret (xBq Tryz.results112 rfl (hR.loadAll (P := Tryz.prog) (ty := 112) ?hm ?hn)) rfl ⟨?_, hR.below⟩; (case hm => first | with_reducible assumption | repeat (first | exact .head _ | apply mT)); (case hn => first | rfl | simp))
        rfl
theorem take_any (s : S8) (b : Nat → Nat) (hs : s.ok) (hb : ∀ j, b j < 256) (w : World) : Calls Tryz.prog 112 #[.agg (s8L s).toArray, .agg (u8s 64 b).toArray] w fun e w' =>
    e = .returned (.agg (s8L (takeN s b)).toArray) ∧ Below w.heap.size w w' := take_lit s _ b hs hb ⟨rfl⟩ w
end Go.Proofs.YtgfoeongjhkdmaaGreat
