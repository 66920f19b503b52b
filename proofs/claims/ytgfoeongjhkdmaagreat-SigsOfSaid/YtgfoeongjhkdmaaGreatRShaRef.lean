/- The contract of balefireref05.block. -/
import Derived.Test.YtgfoeongjhkdmaaGreatRShaHash
set_option linter.unusedVariables false
set_option linter.unusedSimpArgs false
namespace Go.Proofs.YtgfoeongjhkdmaaGreat
open Go.RowKit
attribute [local irreducible] Calls
instance inShaRef1 : RowT Tryz.prog 111 8 := .mk' (by kernel_rfl) (by kernel_rfl)
instance inShaRef2 : ZeroT Tryz.prog 111 (s8L zeroS) := ⟨.agg (s8L zeroS).toArray, by kernel_rfl, rfl⟩
section
variable {P : Program} {ops : Array Oper} {B0 : Nat} {w0 : World} {L : List (Nat × Obj)} {ts : List Nat} {r acc : List Oper} {o : Oper} {a : Act} {K : List Oper → Act → Prop} {I : (World → Prop) → Prop} {C : World → Prop}
theorem hd_unOpV {m : Nat} (hm : m ≠ 2) (hw : Region.wanted o (yielded ops a.tmps) = true) {op : UnOp} {t : TypeId} {x : Operand} (hop : o.op = .unOp op t x) {vx v : Value} (hx' : ev a x = some vx) (hrun : ∀ w, (Op.unary op vx).run P w = .ok v w)
    {a' : Act} (ha : a.put o.dst v = a') (h : xCm P ops I C K ts r acc a') : xCm P ops I C K (m :: ts) (o :: r) acc a :=
  xDo hm hw (fun w => by have hx := xBt hx'; unfold execOp; simp only [hop, hx]; exact ok_value _ (hrun w)) ha h
end
theorem xDg (x k r : Nat) (hx : x < 4294967296) (hk : k ∈ [2, 6, 7, 11, 13, 17, 18, 19, 22, 25]) (hr : rotr x k = r) (w : World) : Calls Tryz.prog 114 #[.int .u32 (x : Int), .int .u64 (k : Int)] w fun e w' => e = .returned (.int .u32 (r : Int)) ∧ Below w.heap.size w w' := by
  have hr' := rot_int x k hx (by simp only [List.mem_cons, List.not_mem_nil, or_false] at hk; omega)
  rw [hr] at hr'
  have hc : bits BinOp.or IntKind.u32 ((x : Int) / 2 ^ k) ((x : Int) * 2 ^ (32 - k) % 4294967296) = (r : Int) := by
    have e1 : (x : Int) * 2 ^ (32 - k) % 4294967296 = ((x * 2 ^ (32 - k) % 4294967296 : Nat) : Int) := by simp
    have e2 : (x : Int) / 2 ^ k = ((x / 2 ^ k : Nat) : Int) := by simp
    rw [e1, e2, u32_or _ _ (Nat.lt_of_le_of_lt (Nat.div_le_self _ _) hx) (Nat.mod_lt _ (by decide)), ← hr]
    rfl
  simp only [List.mem_cons, List.not_mem_nil, or_false] at hk
  clear hr' hr
  replace hc := Held.mk hc
  rcases hk with rfl | rfl | rfl | rfl | rfl | rfl | rfl | rfl | rfl | rfl
  all_goals
    go_enter Tryz.func114, Tryz.ntmps114
    go_wp2
    go_ret
    have h := hc.out
    simp only [Nat.reduceSub, Int.reducePow] at h
    exact ⟨by rw [← h]; rfl, Below.refl _ _⟩
theorem u32_not (e : Nat) (he : e < 4294967296) (w : World) : (Op.unary UnOp.xor (.int .u32 (e : Int))).run Tryz.prog w = .ok (.int .u32 ((4294967295 - e : Nat) : Int)) w := by
  have key : bits BinOp.xor IntKind.u32 (4294967295 : Int) (e : Int) = ((4294967295 - e : Nat) : Int) := by
    have h := xCz 4294967295 e (by decide) he
    have e1 : 4294967295 ^^^ e = 4294967295 - e := by
      refine Nat.eq_of_testBit_eq fun i => ?_
      have h1 : (4294967295 - e).testBit i = (decide (i < 32) && !e.testBit i) := by
        have := Nat.testBit_two_pow_sub_succ (n := 32) he i
        rw [show 2 ^ 32 - (e + 1) = 4294967295 - e by omega] at this
        exact this
      have h0 : (4294967295 : Nat).testBit i = decide (i < 32) := Nat.testBit_two_pow_sub_one 32 i
      have h2 : ¬ i < 32 → e.testBit i = false := fun h => Nat.testBit_lt_two_pow (Nat.lt_of_lt_of_le he (show 2 ^ 32 ≤ 2 ^ i from Nat.pow_le_pow_right (by decide) (by omega)))
      rw [Nat.testBit_xor, h0, h1]
      by_cases h : i < 32
      · simp [h]
      · simp [h, h2 h]
    rw [e1] at h
    exact h
  go_simp
  exact key
theorem ref_facts (a b c d e f g h k w : Nat) (oa : a < 4294967296) (ob : b < 4294967296) (oc : c < 4294967296) (oe : e < 4294967296) (of : f < 4294967296) (og : g < 4294967296) :
    ∃ r0 r1 r2 s0 s1 s2 x0 rt x1 y1 ne y2 y3 x2 x3 t t0 ru z1 z2 z3 z4 z5 u1 u d' : Nat, rotr e 6 = r0 ∧ rotr e 11 = r1 ∧ rotr e 25 = r2 ∧ rotr a 2 = s0 ∧ rotr a 13 = s1 ∧ rotr a 22 = s2 ∧ bits BinOp.xor IntKind.u32 r0 r1 = x0 ∧ bits BinOp.xor IntKind.u32 x0 r2 = rt ∧ IntKind.u32.wrap ((h : Int) + rt) = x1 ∧
      bits BinOp.and IntKind.u32 e f = y1 ∧ 4294967295 - e = ne ∧ bits BinOp.and IntKind.u32 ne g = y2 ∧ bits BinOp.xor IntKind.u32 y1 y2 = y3 ∧ IntKind.u32.wrap ((x1 : Int) + y3) = x2 ∧ IntKind.u32.wrap ((x2 : Int) + k) = x3 ∧ IntKind.u32.wrap ((x3 : Int) + w) = t ∧
      bits BinOp.xor IntKind.u32 s0 s1 = t0 ∧ bits BinOp.xor IntKind.u32 t0 s2 = ru ∧ bits BinOp.and IntKind.u32 a b = z1 ∧ bits BinOp.and IntKind.u32 a c = z2 ∧ bits BinOp.or IntKind.u32 z1 z2 = z3 ∧ bits BinOp.and IntKind.u32 b c = z4 ∧ bits BinOp.or IntKind.u32 z3 z4 = z5 ∧ IntKind.u32.wrap ((ru : Int) + z5) = u1 ∧
      IntKind.u32.wrap ((t : Int) + u1) = u ∧ IntKind.u32.wrap ((d : Int) + t) = d' ∧ roundN ⟨a, b, c, d, e, f, g, h⟩ k w = ⟨u, a, b, c, d', e, f, g⟩ := by
  refine ⟨rotr e 6, rotr e 11, rotr e 25, rotr a 2, rotr a 13, rotr a 22, rotr e 6 ^^^ rotr e 11, rot3 e 6 11 25, (h + rot3 e 6 11 25) % 4294967296, e &&& f, 4294967295 - e, (4294967295 - e) &&& g, chN e f g, ((h + rot3 e 6 11 25) % 4294967296 + chN e f g) % 4294967296, (((h + rot3 e 6 11 25) % 4294967296 + chN e f g) % 4294967296 + k) % 4294967296, tN ⟨a, b, c, d, e, f, g, h⟩ k w,
    rotr a 2 ^^^ rotr a 13, rot3 a 2 13 22, a &&& b, a &&& c, (a &&& b) ||| (a &&& c), b &&& c, majN a b c, (rot3 a 2 13 22 + majN a b c) % 4294967296, uN ⟨a, b, c, d, e, f, g, h⟩ (tN ⟨a, b, c, d, e, f, g, h⟩ k w), (d + tN ⟨a, b, c, d, e, f, g, h⟩ k w) % 4294967296, rfl, rfl, rfl, rfl, rfl, rfl, xCz _ _ (xCn _ oe) (xCn _ oe), xCz _ _ (xor_lt (xCn _ oe) (xCn _ oe)) (xCn _ oe), ?_,
    u32_and e f oe of, rfl, u32_and _ g (by omega) og, ?_, ?_, ?_, ?_, xCz _ _ (xCn _ oa) (xCn _ oa), xCz _ _ (xor_lt (xCn _ oa) (xCn _ oa)) (xCn _ oa), u32_and a b oa ob, u32_and a c oa oc, u32_or _ _ (and_lt ob) (and_lt oc), u32_and b c ob oc, ?_, ?_, ?_, ?_, rfl⟩
  · rw [IntKind.wrap_u32]; omega
  · rw [xCz _ _ (and_lt of) (and_lt og), ch_ref oe og]
  · rw [IntKind.wrap_u32]; omega
  · rw [IntKind.wrap_u32]; omega
  · rw [IntKind.wrap_u32]; unfold tN; simp only; omega
  · rw [u32_or _ _ (or_lt (and_lt ob) (and_lt oc)) (and_lt oc), maj_ref]
  · rw [IntKind.wrap_u32]; omega
  · rw [IntKind.wrap_u32]; unfold uN; simp only; omega
  · rw [IntKind.wrap_u32]; omega
set_option maxRecDepth 100000 in
set_option maxHeartbeats 4000000 in
theorem block_lit {B0 : Nat} {w0 w : World} {L : List (Nat × Obj)} (s r : S8) (b : Nat → Nat) (hs : s.ok) (hb : ∀ j, b j < 256) (bb off cap kb : Nat) (l : List Value) (hm : (bb, Obj.cells l.toArray 5) ∈ L) (hl : ∀ j, j < 64 → l[off + j]? = some (.int .u8 (b j : Int))) (hk : (kb, Obj.cells (u32s 64 stepF).toArray 110) ∈ L) (hr : Held (takeN s b = r)) (hR : Rep B0 w0 L w) :
    Calls Tryz.prog 110 #[.agg (s8L s).toArray, .slice (some ⟨bb, off, none⟩) 64 cap, .slice (some ⟨kb, 0, none⟩) 64 64] w fun e w' => e = .returned (.agg (s8L r).toArray) ∧ Rep B0 w0 L w' := by
  replace hl := Held.mk hl
  go_enter Tryz.func110, Tryz.ntmps110
  go_wp2_with (first | (refine' xAb hR rfl rfl rfl ?_; clear hR; intro blk w hR) | (refine' xAa hR rfl rfl inferInstance ?_; clear hR; intro blk w hR) | (refine' aFq hR rfl rfl rfl inferInstance ?_) | (refine' aGq hR rfl rfl rfl inferInstance ?_) | (refine' aHq hR rfl rfl rfl inferInstance ?_) | (refine' aDq hR rfl rfl rfl inferInstance rfl ?_; clear hR; intro w hR) | (refine' aEq hR rfl rfl rfl inferInstance rfl rfl ?_; clear hR; intro w hR) | fail)
  rename_i b1' _ b2' _ K0 k0
  refine' xCa (false :: false :: false :: false :: false :: false :: false :: false :: false :: false :: false :: false :: false :: false :: false :: false :: false :: false :: false :: true :: true :: true :: true :: true :: true :: true :: true :: true :: true :: true :: true :: true :: true :: true :: true :: true :: true :: true :: true :: true :: true :: true :: true :: true :: true :: true :: true :: true :: true :: true :: true :: true :: true :: true :: true :: true :: true :: true :: false :: false :: false :: false :: false :: false :: false :: false :: false :: false :: false :: false :: false :: false :: false :: false :: false :: false :: false :: false :: false :: false :: false :: false :: false :: false :: false :: false :: false :: false :: false :: false :: false :: false :: false :: false :: false :: false :: false :: false :: false :: false :: false :: false :: false :: false :: false :: false :: false :: false :: false :: false :: false :: false :: false :: false :: false :: false :: false :: false :: false :: false :: false :: false :: false :: false :: false :: false :: false :: false :: false :: false :: false :: false :: false :: false :: false :: false :: false :: false :: false :: false :: false :: false :: false :: false :: false :: false :: false :: false :: false :: false :: false :: false :: false :: false :: false :: false :: false :: false :: false :: false :: false :: false :: false :: false :: false :: false :: false :: false :: false :: false :: false :: false :: false :: false :: false :: false :: false :: false :: false :: false :: false :: false :: false :: false :: false :: false :: false :: false :: false :: false :: false :: false :: false :: false :: false :: []) (fun j l => l.set 8 (.int .i64 ((16 : Int) - (j : Int)))) (fun j => (blk, .cells (wRow b (16 - j)).toArray 128) :: (b2', .cells (s8L zeroS).toArray 111) :: (b1', .cells (s8L s).toArray 111) :: L) 16 ?h0 ?hR ?hs ?he
  case hR => exact hR
  case h0 => exact xAu rfl rfl rfl
  case hs =>
    clear hR k0
    intro j tm w hj ht hR K hK
    repeat (first | (obtain ⟨x, tm', e, ht'⟩ := xAf ht; clear ht; subst e; have ht := ht'; clear ht') | (obtain ⟨tm', e, ht'⟩ := xAc ht; clear ht; subst e; have ht := ht'; clear ht'))
    obtain rfl := xAk ht
    clear ht
    obtain ⟨k, hk⟩ : ∃ k, 16 - (j + 1) = k := ⟨_, rfl⟩
    have e1 : (16 : Int) - ((j + 1 : Nat) : Int) = (k : Int) := by omega
    have e2 : (16 : Int) - (j : Int) = (k : Int) + 1 := by omega
    have e3 : 16 - j = k + 1 := by omega
    rw [hk] at hR
    simp only [e2, e3] at hK
    rw [e1]
    have k64 : k < 16 := by omega
    clear e1 e2 e3 hk hj
    have g0 : 0 ≤ (k : Int) := by omega
    have g1 : (k : Int) < 16 := by omega
    have d0 := hl.out (4 * k) (by omega)
    have d1 := hl.out (4 * k + 1) (by omega)
    have d2 := hl.out (4 * k + 2) (by omega)
    have d3 := hl.out (4 * k + 3) (by omega)
    have v0 := hb (4 * k); have v1 := hb (4 * k + 1); have v2 := hb (4 * k + 2); have v3 := hb (4 * k + 3)
    obtain ⟨p0, hp0⟩ : ∃ p, 4 * k = p := ⟨_, rfl⟩
    obtain ⟨p1, hp1⟩ : ∃ p, 4 * k + 1 = p := ⟨_, rfl⟩
    obtain ⟨p2, hp2⟩ : ∃ p, 4 * k + 2 = p := ⟨_, rfl⟩
    obtain ⟨p3, hp3⟩ : ∃ p, 4 * k + 3 = p := ⟨_, rfl⟩
    have q0 : IntKind.i64.wrap (4 * (k : Int)) = (p0 : Int) := by rw [IntKind.wrap_i64]; omega
    have q1 : IntKind.i64.wrap ((p0 : Int) + 1) = (p1 : Int) := by rw [IntKind.wrap_i64]; omega
    have q2 : IntKind.i64.wrap ((p0 : Int) + 2) = (p2 : Int) := by rw [IntKind.wrap_i64]; omega
    have q3 : IntKind.i64.wrap ((p0 : Int) + 3) = (p3 : Int) := by rw [IntKind.wrap_i64]; omega
    rw [hp0] at d0 v0; rw [hp1] at d1 v1; rw [hp2] at d2 v2; rw [hp3] at d3 v3
    have b0 : (p0 : Int) < 64 := by omega
    have b1 : (p1 : Int) < 64 := by omega
    have b2 : (p2 : Int) < 64 := by omega
    have b3 : (p3 : Int) < 64 := by omega
    have a0 : 0 ≤ (p0 : Int) := by omega
    have a1 : 0 ≤ (p1 : Int) := by omega
    have a2 : 0 ≤ (p2 : Int) := by omega
    have a3 : 0 ≤ (p3 : Int) := by omega
    have hw : wAt b k = be4 (b p0) (b p1) (b p2) (b p3) := by rw [wAt_first k64, ← hp0, ← hp1, ← hp2, ← hp3]; rfl
    have g2 : (k : Int) < 64 := by omega
    clear hp0 hp1 hp2 hp3
    have hset := wRow_set b (i := k) (x := be4 (b p0) (b p1) (b p2) (b p3)) hw
    rw [← be4_int _ _ _ _ v0 v1 v2 v3] at hset
    clear hw
    generalize b p0 = c0 at *
    generalize b p1 = c1 at *
    generalize b p2 = c2 at *
    generalize b p3 = c3 at *
    go_wp2_with (first | (refine' xAb hR rfl rfl rfl ?_; clear hR; intro blk w hR) | (refine' xAa hR rfl rfl inferInstance ?_; clear hR; intro blk w hR) | (refine' aFq hR rfl rfl rfl inferInstance ?_) | (refine' aGq hR rfl rfl rfl inferInstance ?_) | (refine' aHq hR rfl rfl rfl inferInstance ?_) | (refine' aDq hR rfl rfl rfl inferInstance rfl ?_; clear hR; intro w hR) | (refine' aEq hR rfl rfl rfl inferInstance rfl rfl ?_; clear hR; intro w hR) | fail)
    refine xAg hR [0, 0, 0, 0, 0, 0, 0, 0, 0, 0, 0, 0, 0, 0, 0, 0, 0, 0, 0, 0, 0, 0, 0, 0, 0, 0, 0, 0, 0, 0, 0, 0, 0, 0, 0, 2] [] xCt (by kernel_rfl) rfl rfl (fun K hK => ?_)
    clear hR
    repeat ((first | (refine xBj ?_) | (refine' xAs (by decide) rfl (.inl rfl) rfl ?ha ?_) | (refine' xAs (by decide) rfl (.inr rfl) rfl ?ha ?_) | (refine' xAr rfl rfl rfl inferInstance ?hm ?hn ?ha ?_; (case hm => first | with_reducible assumption | repeat (first | exact .head _ | with_reducible assumption | apply mC)); (case hn => first | rfl | simp)) | (refine' xAm rfl rfl rfl inferInstance ?hm ?hv ?hn ?ha ?_; (case hm => first | with_reducible assumption | repeat (first | exact .head _ | with_reducible assumption | apply mC)); (case hv => first | with_reducible assumption | (simp only [kC, kD, kE, kF]; try rfl)); (case hn => first | rfl | simp)) | (refine' xAi rfl rfl rfl inferInstance ?hm ?hv ?ha ?_; (case hm => first | with_reducible assumption | repeat (first | exact .head _ | with_reducible assumption | apply mC)); (case hv => first | rfl | with_reducible assumption)) | (refine' xAn rfl rfl rfl inferInstance ?hm ?hv ?hn ?ha ?_; (case hm => first | with_reducible assumption | repeat (first | exact .head _ | with_reducible assumption | apply mC)); (case hv => first | with_reducible assumption | (simp only [kC, kD, kE, kF]; try rfl)); (case hn => first | rfl | simp)) | (refine' xAj rfl rfl rfl inferInstance ?hm ?hv ?ha ?_; (case hm => first | with_reducible assumption | repeat (first | exact .head _ | with_reducible assumption | apply mC)); (case hv => first | rfl | with_reducible assumption)) | ((first | refine' xAd (by decide) rfl rfl rfl rfl (fun w => ?hq) ?ha ?_ | refine' xBf (by decide) rfl rfl rfl rfl (fun w => ?hq) ?ha ?_ | refine' xAp (by decide) rfl rfl rfl (fun w => ?hq) ?ha ?_ | refine' xAe (by decide) rfl rfl rfl (fun w => ?hq) ?ha ?_ | refine' xAo (by decide) rfl rfl rfl (fun w => ?hq) ?ha ?_ | refine' xBd (by decide) rfl rfl rfl rfl (fun w => ?hq) ?ha ?_ | refine' xBc (by decide) rfl rfl rfl rfl rfl rfl (fun w => ?hq) ?ha ?_ | refine' xBb (by decide) rfl rfl (fun w => ?hq) ?ha ?_ | refine' xAq (by decide) rfl rfl rfl (fun w => ?hq) ?ha ?_ | refine' xBe (by decide) rfl rfl rfl (fun w => ?hq) ?ha ?_); (case hq => go_simp; try rfl)) | (refine' xAh (by decide) rfl rfl rfl ?ha ?_) | (refine' xBl (by decide) rfl rfl rfl rfl ?ha ?_) | (refine' xBk (by decide) rfl ?ha ?_) | fail); try (case ha => simp only [kP, kQ, kA, kB]; try rfl))
    refine xBs (hK _ _ ?_)
    clear hK K
    refine xBx (fun Q hQ => ?_)
    try simp only [List.nil_append, List.cons_append]
    repeat ((first | refine' xBa rfl (.inl rfl) rfl ?hk ?ha ?_ | refine' xBa rfl (.inr rfl) rfl ?hk ?ha ?_ | (refine' xAv rfl rfl rfl inferInstance rfl ?hs rfl rfl ?hn ?hk ?ha ?_; (case hs => repeat (first | exact xAx.head | apply xAx.tail)); (case hn => first | rfl | simp)) | (refine' xAl rfl rfl rfl inferInstance rfl rfl ?hs ?hn ?hl ?hk ?ha ?_; (case hs => repeat (first | exact xAx.head | apply xAx.tail)); (case hn => first | exact oD rfl | (show _ < 4; with_reducible assumption) | (simp; try omega)); (case hl => first | with_reducible assumption | (simp only [nl, kA, kB]; first | done | rfl) | rfl)) | (refine' xAw rfl rfl rfl inferInstance rfl rfl ?hvn ?hs ?hn ?hl ?hk ?ha ?_; (case hvn => first | rfl | simp); (case hs => repeat (first | exact xAx.head | apply xAx.tail)); (case hn => first | exact oD rfl | (show _ < 4; with_reducible assumption) | (simp; try omega)); (case hl => first | with_reducible assumption | (simp only [nl, kA, kB]; first | done | rfl) | rfl)) | (refine' xBm rfl (fun w => ?hq) ?hk ?ha ?_; (case hq => go_simp; try rfl))); (case hk => intro p hp; first | exact absurd hp List.not_mem_nil | (obtain rfl := List.mem_singleton.1 hp; repeat (first | exact List.Mem.head _ | with_reducible assumption | apply mC))); (case ha => simp only [kP, kQ, kA, kB]; try rfl))
    refine xBw (fun w hR => hQ _ _ ?_)
    clear hQ Q
    go_wp2_with (first | (refine' xAb hR rfl rfl rfl ?_; clear hR; intro blk w hR) | (refine' xAa hR rfl rfl inferInstance ?_; clear hR; intro blk w hR) | (refine' aFq hR rfl rfl rfl inferInstance ?_) | (refine' aGq hR rfl rfl rfl inferInstance ?_) | (refine' aHq hR rfl rfl rfl inferInstance ?_) | (refine' aDq hR rfl rfl rfl inferInstance rfl ?_; clear hR; intro w hR) | (refine' aEq hR rfl rfl rfl inferInstance rfl rfl ?_; clear hR; intro w hR) | fail)
    exact hK.out _ _ (xAu rfl rfl rfl) hR
  case he =>
    clear hR
    obtain ⟨bw, hbw⟩ : ∃ x, x = blk := ⟨_, rfl⟩
    subst hbw
    intro tm w ht hR K
    simp only [Int.natCast_zero, Int.sub_zero] at ht
    simp only [Nat.sub_zero] at hR
    repeat (first | (obtain ⟨x, tm', e, ht'⟩ := xAf ht; clear ht; subst e; have ht := ht'; clear ht') | (obtain ⟨tm', e, ht'⟩ := xAc ht; clear ht; subst e; have ht := ht'; clear ht'))
    obtain rfl := xAk ht
    clear ht
    go_wp2_with (first | (refine' xAb hR rfl rfl rfl ?_; clear hR; intro blk w hR) | (refine' xAa hR rfl rfl inferInstance ?_; clear hR; intro blk w hR) | (refine' aFq hR rfl rfl rfl inferInstance ?_) | (refine' aGq hR rfl rfl rfl inferInstance ?_) | (refine' aHq hR rfl rfl rfl inferInstance ?_) | (refine' aDq hR rfl rfl rfl inferInstance rfl ?_; clear hR; intro w hR) | (refine' aEq hR rfl rfl rfl inferInstance rfl rfl ?_; clear hR; intro w hR) | fail)
    rename_i K1 k1
    refine' xCa (false :: false :: false :: false :: false :: false :: false :: false :: false :: false :: true :: true :: false :: false :: false :: false :: false :: false :: false :: false :: false :: false :: false :: false :: false :: false :: false :: false :: false :: false :: false :: false :: false :: false :: false :: false :: false :: false :: false :: false :: false :: false :: false :: false :: false :: false :: false :: false :: false :: false :: false :: false :: false :: false :: false :: false :: false :: false :: true :: true :: true :: true :: true :: true :: true :: true :: true :: true :: true :: true :: true :: true :: true :: true :: true :: true :: true :: true :: true :: true :: true :: true :: true :: true :: true :: true :: true :: true :: true :: true :: true :: true :: true :: true :: true :: true :: true :: true :: true :: false :: false :: false :: false :: false :: false :: false :: false :: false :: false :: false :: false :: false :: false :: false :: false :: false :: false :: false :: false :: false :: false :: false :: false :: false :: false :: false :: false :: false :: false :: false :: false :: false :: false :: false :: false :: false :: false :: false :: false :: false :: false :: false :: false :: false :: false :: false :: false :: false :: false :: false :: false :: false :: false :: false :: false :: false :: false :: false :: false :: false :: false :: false :: false :: false :: false :: false :: false :: false :: false :: false :: false :: false :: false :: false :: false :: false :: false :: false :: false :: false :: false :: false :: false :: false :: false :: false :: false :: false :: false :: false :: false :: false :: false :: false :: false :: []) (fun j l => l.set 9 (.int .i64 ((64 : Int) - (j : Int)))) (fun j => (bw, .cells (wRow b (64 - j)).toArray 128) :: (b2', .cells (s8L zeroS).toArray 111) :: (b1', .cells (s8L s).toArray 111) :: L) 48 ?h0 ?hR ?hs ?he
    case hR => exact hR
    case h0 => exact xAu rfl rfl rfl
    case hs =>
      clear hR k1
      intro j tm w hj ht hR K hK
      repeat (first | (obtain ⟨x, tm', e, ht'⟩ := xAf ht; clear ht; subst e; have ht := ht'; clear ht') | (obtain ⟨tm', e, ht'⟩ := xAc ht; clear ht; subst e; have ht := ht'; clear ht'))
      obtain rfl := xAk ht
      clear ht
      obtain ⟨k, hk⟩ : ∃ k, 64 - (j + 1) = k := ⟨_, rfl⟩
      have e1 : (64 : Int) - ((j + 1 : Nat) : Int) = (k : Int) := by omega
      have e2 : (64 : Int) - (j : Int) = (k : Int) + 1 := by omega
      have e3 : 64 - j = k + 1 := by omega
      rw [hk] at hR
      simp only [e2, e3] at hK
      rw [e1]
      have k64 : k < 64 := by omega
      have h16 : ¬ k < 16 := by omega
      clear e1 e2 e3 hk hj
      have g0 : 0 ≤ (k : Int) := by omega
      have g1 : (k : Int) < 64 := by omega
      obtain ⟨p0, hp0⟩ : ∃ p, k - 15 = p := ⟨_, rfl⟩
      obtain ⟨p1, hp1⟩ : ∃ p, k - 2 = p := ⟨_, rfl⟩
      obtain ⟨p2, hp2⟩ : ∃ p, k - 16 = p := ⟨_, rfl⟩
      obtain ⟨p3, hp3⟩ : ∃ p, k - 7 = p := ⟨_, rfl⟩
      have q0 : IntKind.i64.wrap ((k : Int) - 15) = (p0 : Int) := by rw [IntKind.wrap_i64]; omega
      have q1 : IntKind.i64.wrap ((k : Int) - 2) = (p1 : Int) := by rw [IntKind.wrap_i64]; omega
      have q2 : IntKind.i64.wrap ((k : Int) - 16) = (p2 : Int) := by rw [IntKind.wrap_i64]; omega
      have q3 : IntKind.i64.wrap ((k : Int) - 7) = (p3 : Int) := by rw [IntKind.wrap_i64]; omega
      have d0 := wRow_at (b := b) (i := k) (k := p0) (by omega) (by omega)
      have d1 := wRow_at (b := b) (i := k) (k := p1) (by omega) (by omega)
      have d2 := wRow_at (b := b) (i := k) (k := p2) (by omega) (by omega)
      have d3 := wRow_at (b := b) (i := k) (k := p3) (by omega) (by omega)
      have v0 := wAt_lt hb p0; have v1 := wAt_lt hb p1; have v2 := wAt_lt hb p2; have v3 := wAt_lt hb p3
      have hw : wAt b k = moreN (wAt b p2) (wAt b p3) (wAt b p0) (wAt b p1) := by rw [wAt_more h16 k64, ← hp0, ← hp1, ← hp2, ← hp3]
      have b0 : (p0 : Int) < 64 := by omega
      have b1 : (p1 : Int) < 64 := by omega
      have b2 : (p2 : Int) < 64 := by omega
      have b3 : (p3 : Int) < 64 := by omega
      have a0 : 0 ≤ (p0 : Int) := by omega
      have a1 : 0 ≤ (p1 : Int) := by omega
      have a2 : 0 ≤ (p2 : Int) := by omega
      have a3 : 0 ≤ (p3 : Int) := by omega
      clear hp0 hp1 hp2 hp3
      have hset := wRow_set b (i := k) hw
      rw [← more_int _ _ _ _ v0 v1] at hset
      clear hw
      generalize wAt b p0 = c0 at *
      generalize wAt b p1 = c1 at *
      generalize wAt b p2 = c2 at *
      generalize wAt b p3 = c3 at *
      obtain ⟨m0, hm0⟩ : ∃ x, rotr c0 7 = x := ⟨_, rfl⟩
      obtain ⟨m1, hm1⟩ : ∃ x, rotr c0 18 = x := ⟨_, rfl⟩
      obtain ⟨m2, hm2⟩ : ∃ x, rotr c1 17 = x := ⟨_, rfl⟩
      obtain ⟨m3, hm3⟩ : ∃ x, rotr c1 19 = x := ⟨_, rfl⟩
      have x0 := xCz (rotr c0 7) (rotr c0 18) (xCn _ v0) (xCn _ v0)
      have x1 := xCz (rotr c1 17) (rotr c1 19) (xCn _ v1) (xCn _ v1)
      change _ = ((rot2 c0 7 18 : Nat) : Int) at x0
      change _ = ((rot2 c1 17 19 : Nat) : Int) at x1
      rw [hm0, hm1] at x0
      rw [hm2, hm3] at x1
      have r0 := fun w => xDg c0 7 m0 v0 (by decide) hm0 w
      have r1 := fun w => xDg c0 18 m1 v0 (by decide) hm1 w
      have r2 := fun w => xDg c1 17 m2 v1 (by decide) hm2 w
      have r3 := fun w => xDg c1 19 m3 v1 (by decide) hm3 w
      clear hm0 hm1 hm2 hm3
      go_wp2_with (first | (refine' xAb hR rfl rfl rfl ?_; clear hR; intro blk w hR) | (refine' xAa hR rfl rfl inferInstance ?_; clear hR; intro blk w hR) | (refine' aFq hR rfl rfl rfl inferInstance ?_) | (refine' aGq hR rfl rfl rfl inferInstance ?_) | (refine' aHq hR rfl rfl rfl inferInstance ?_) | (refine' aDq hR rfl rfl rfl inferInstance rfl ?_; clear hR; intro w hR) | (refine' aEq hR rfl rfl rfl inferInstance rfl rfl ?_; clear hR; intro w hR) | fail)
      refine xAg hR [0, 0, 0, 0, 0, 0, 0, 0, 0, 0, 0, 0, 0, 0, 0, 0, 0, 0, 0, 0, 0, 0, 0, 0, 0, 0, 0, 0, 0, 2] [] xCt (by kernel_rfl) rfl rfl (fun K hK => ?_)
      clear hR
      repeat ((first | (refine xBj ?_) | (refine' xAs (by decide) rfl (.inl rfl) rfl ?ha ?_) | (refine' xAs (by decide) rfl (.inr rfl) rfl ?ha ?_) | (refine' xAr rfl rfl rfl inferInstance ?hm ?hn ?ha ?_; (case hm => first | with_reducible assumption | repeat (first | exact .head _ | with_reducible assumption | apply mC)); (case hn => first | rfl | simp)) | (refine' xAm rfl rfl rfl inferInstance ?hm ?hv ?hn ?ha ?_; (case hm => first | with_reducible assumption | repeat (first | exact .head _ | with_reducible assumption | apply mC)); (case hv => first | with_reducible assumption | (simp only [kC, kD, kE, kF]; try rfl)); (case hn => first | rfl | simp)) | (refine' xAi rfl rfl rfl inferInstance ?hm ?hv ?ha ?_; (case hm => first | with_reducible assumption | repeat (first | exact .head _ | with_reducible assumption | apply mC)); (case hv => first | rfl | with_reducible assumption)) | (refine' xAn rfl rfl rfl inferInstance ?hm ?hv ?hn ?ha ?_; (case hm => first | with_reducible assumption | repeat (first | exact .head _ | with_reducible assumption | apply mC)); (case hv => first | with_reducible assumption | (simp only [kC, kD, kE, kF]; try rfl)); (case hn => first | rfl | simp)) | (refine' xAj rfl rfl rfl inferInstance ?hm ?hv ?ha ?_; (case hm => first | with_reducible assumption | repeat (first | exact .head _ | with_reducible assumption | apply mC)); (case hv => first | rfl | with_reducible assumption)) | ((first | refine' xAd (by decide) rfl rfl rfl rfl (fun w => ?hq) ?ha ?_ | refine' xBf (by decide) rfl rfl rfl rfl (fun w => ?hq) ?ha ?_ | refine' xAp (by decide) rfl rfl rfl (fun w => ?hq) ?ha ?_ | refine' xAe (by decide) rfl rfl rfl (fun w => ?hq) ?ha ?_ | refine' xAo (by decide) rfl rfl rfl (fun w => ?hq) ?ha ?_ | refine' xBd (by decide) rfl rfl rfl rfl (fun w => ?hq) ?ha ?_ | refine' xBc (by decide) rfl rfl rfl rfl rfl rfl (fun w => ?hq) ?ha ?_ | refine' xBb (by decide) rfl rfl (fun w => ?hq) ?ha ?_ | refine' xAq (by decide) rfl rfl rfl (fun w => ?hq) ?ha ?_ | refine' xBe (by decide) rfl rfl rfl (fun w => ?hq) ?ha ?_); (case hq => go_simp; try rfl)) | (refine' xAh (by decide) rfl rfl rfl ?ha ?_) | (refine' xBl (by decide) rfl rfl rfl rfl ?ha ?_) | (refine' xBk (by decide) rfl ?ha ?_) | (refine' xBg rfl rfl rfl (xBi Tryz.func114 (by kernel_rfl) (by kernel_rfl) _) (fun w => r0 w) ?ha ?_) | (refine' xBg rfl rfl rfl (xBi Tryz.func114 (by kernel_rfl) (by kernel_rfl) _) (fun w => r1 w) ?ha ?_) | (refine' xBg rfl rfl rfl (xBi Tryz.func114 (by kernel_rfl) (by kernel_rfl) _) (fun w => r2 w) ?ha ?_) | (refine' xBg rfl rfl rfl (xBi Tryz.func114 (by kernel_rfl) (by kernel_rfl) _) (fun w => r3 w) ?ha ?_)); try (case ha => simp only [kP, kQ, kA, kB]; try rfl))
      refine xBs (hK _ _ ?_)
      clear hK K
      refine xBx (fun Q hQ => ?_)
      try simp only [List.nil_append, List.cons_append]
      repeat ((first | refine' xBa rfl (.inl rfl) rfl ?hk ?ha ?_ | refine' xBa rfl (.inr rfl) rfl ?hk ?ha ?_ | (refine' xAv rfl rfl rfl inferInstance rfl ?hs rfl rfl ?hn ?hk ?ha ?_; (case hs => repeat (first | exact xAx.head | apply xAx.tail)); (case hn => first | rfl | simp)) | (refine' xAl rfl rfl rfl inferInstance rfl rfl ?hs ?hn ?hl ?hk ?ha ?_; (case hs => repeat (first | exact xAx.head | apply xAx.tail)); (case hn => first | exact oD rfl | (show _ < 4; with_reducible assumption) | (simp; try omega)); (case hl => first | with_reducible assumption | (simp only [nl, kA, kB]; first | done | rfl) | rfl)) | (refine' xAw rfl rfl rfl inferInstance rfl rfl ?hvn ?hs ?hn ?hl ?hk ?ha ?_; (case hvn => first | rfl | simp); (case hs => repeat (first | exact xAx.head | apply xAx.tail)); (case hn => first | exact oD rfl | (show _ < 4; with_reducible assumption) | (simp; try omega)); (case hl => first | with_reducible assumption | (simp only [nl, kA, kB]; first | done | rfl) | rfl)) | (refine' xBm rfl (fun w => ?hq) ?hk ?ha ?_; (case hq => go_simp; try rfl))); (case hk => intro p hp; first | exact absurd hp List.not_mem_nil | (obtain rfl := List.mem_singleton.1 hp; repeat (first | exact List.Mem.head _ | with_reducible assumption | apply mC))); (case ha => simp only [kP, kQ, kA, kB]; try rfl))
      refine xBw (fun w hR => hQ _ _ ?_)
      clear hQ Q
      go_wp2_with (first | (refine' xAb hR rfl rfl rfl ?_; clear hR; intro blk w hR) | (refine' xAa hR rfl rfl inferInstance ?_; clear hR; intro blk w hR) | (refine' aFq hR rfl rfl rfl inferInstance ?_) | (refine' aGq hR rfl rfl rfl inferInstance ?_) | (refine' aHq hR rfl rfl rfl inferInstance ?_) | (refine' aDq hR rfl rfl rfl inferInstance rfl ?_; clear hR; intro w hR) | (refine' aEq hR rfl rfl rfl inferInstance rfl rfl ?_; clear hR; intro w hR) | fail)
      exact hK.out _ _ (xAu rfl rfl rfl) hR
    case he =>
      clear hR
      intro tm w ht hR K
      simp only [Int.natCast_zero, Int.sub_zero] at ht
      simp only [Nat.sub_zero] at hR
      repeat (first | (obtain ⟨x, tm', e, ht'⟩ := xAf ht; clear ht; subst e; have ht := ht'; clear ht') | (obtain ⟨tm', e, ht'⟩ := xAc ht; clear ht; subst e; have ht := ht'; clear ht'))
      obtain rfl := xAk ht
      clear ht
      go_wp2_with (first | (refine' xAb hR rfl rfl rfl ?_; clear hR; intro blk w hR) | (refine' xAa hR rfl rfl inferInstance ?_; clear hR; intro blk w hR) | (refine' aFq hR rfl rfl rfl inferInstance ?_) | (refine' aGq hR rfl rfl rfl inferInstance ?_) | (refine' aHq hR rfl rfl rfl inferInstance ?_) | (refine' aDq hR rfl rfl rfl inferInstance rfl ?_; clear hR; intro w hR) | (refine' aEq hR rfl rfl rfl inferInstance rfl rfl ?_; clear hR; intro w hR) | fail)
      rename_i K2 k2
      have wok := wAt_lt hb
      refine' xCa (false :: false :: false :: false :: false :: false :: false :: false :: false :: false :: false :: false :: false :: false :: true :: true :: true :: true :: false :: false :: false :: false :: false :: false :: false :: false :: false :: false :: false :: false :: false :: false :: false :: false :: false :: false :: false :: false :: false :: false :: false :: false :: false :: false :: false :: false :: false :: false :: false :: false :: false :: false :: false :: false :: false :: false :: false :: false :: false :: false :: false :: false :: false :: false :: false :: false :: false :: false :: false :: false :: false :: false :: false :: false :: false :: false :: false :: false :: false :: false :: false :: false :: false :: false :: false :: false :: false :: false :: false :: false :: false :: false :: false :: false :: false :: false :: false :: false :: false :: false :: true :: true :: true :: true :: true :: true :: true :: true :: true :: true :: true :: true :: true :: true :: true :: true :: true :: true :: true :: true :: true :: true :: true :: true :: true :: true :: true :: true :: true :: true :: true :: true :: true :: true :: true :: true :: true :: true :: true :: true :: true :: true :: true :: true :: true :: true :: true :: true :: true :: true :: true :: true :: true :: true :: true :: true :: true :: true :: true :: true :: true :: true :: true :: true :: true :: true :: true :: true :: true :: true :: true :: true :: true :: true :: true :: true :: true :: true :: true :: true :: true :: false :: false :: false :: false :: false :: false :: false :: false :: false :: false :: false :: false :: false :: false :: []) (fun j l => l.set 13 (.int .i64 ((64 : Int) - (j : Int)))) (fun j => (blk, .cells (s8L (runN s (sched b 64) (64 - j))).toArray 111) :: (bw, .cells (wRow b 64).toArray 128) :: (b2', .cells (s8L zeroS).toArray 111) :: (b1', .cells (s8L s).toArray 111) :: L) 64 ?h0 ?hR ?hs ?he
      case hR => exact hR
      case h0 => exact xAu rfl rfl rfl
      case hs =>
        clear hR k2
        intro j tm w hj ht hR K hK
        repeat (first | (obtain ⟨x, tm', e, ht'⟩ := xAf ht; clear ht; subst e; have ht := ht'; clear ht') | (obtain ⟨tm', e, ht'⟩ := xAc ht; clear ht; subst e; have ht := ht'; clear ht'))
        obtain rfl := xAk ht
        clear ht
        obtain ⟨k, hk'⟩ : ∃ k, 64 - (j + 1) = k := ⟨_, rfl⟩
        have e1 : (64 : Int) - ((j + 1 : Nat) : Int) = (k : Int) := by omega
        have e2 : (64 : Int) - (j : Int) = (k : Int) + 1 := by omega
        have e3 : 64 - j = k + 1 := by omega
        rw [hk'] at hR
        simp only [e2, e3] at hK
        rw [e1]
        have k64 : k < 64 := by omega
        clear e1 e2 e3 hk' hj
        have g0 : 0 ≤ (k : Int) := by omega
        have g1 : (k : Int) < 64 := by omega
        have ok := runN_ok hs (sched b 64) k
        have hrun : runN s (sched b 64) (k + 1) = roundN (runN s (sched b 64) k) (stepF k) (wAt b k) := by rw [stepF_def, wAt_def]; rfl
        have dw := wRow_at (b := b) (i := 64) (k := k) k64 k64
        have dk := u32s_at (w := stepF) k64
        have vk := stepF_lt k
        have vw := wok k
        generalize runN s (sched b 64) k = st at *
        generalize runN s (sched b 64) (k + 1) = st' at *
        generalize stepF k = sk at *
        generalize wAt b k = wk at *
        obtain ⟨a, b', c, d, e, f, g, h⟩ := st
        obtain ⟨oa, ob, oc, od, oe, of, og, oh⟩ := ok
        simp only at oa ob oc od oe of og oh
        change Rep _ _ ((blk, .cells (s8V a b' c d e f g h).toArray 111) :: _) _ at hR
        obtain ⟨r0, r1, r2, s0, s1, s2, x0, rt, x1, y1, ne, y2, y3, x2, x3, t, t0, ru, z1, z2, z3, z4, z5, u1, u, d', a1, a2, a3, a4, a5, a6, q1, q2, q3, q4, q5, q6, q7, q8, q9, q10, p1, p2, p3, p4, p5, p6, p7, p8, p9, p10, hst⟩ := ref_facts a b' c d e f g h sk wk oa ob oc oe of og
        rw [hst] at hrun
        have c1 := fun w => xDg e 6 r0 oe (by decide) a1 w
        have c2 := fun w => xDg e 11 r1 oe (by decide) a2 w
        have c3 := fun w => xDg e 25 r2 oe (by decide) a3 w
        have c4 := fun w => xDg a 2 s0 oa (by decide) a4 w
        have c5 := fun w => xDg a 13 s1 oa (by decide) a5 w
        have c6 := fun w => xDg a 22 s2 oa (by decide) a6 w
        have un := fun w => u32_not e oe w
        rw [q5] at un
        rw [hrun] at hK
        clear hst hrun a1 a2 a3 a4 a5 a6 q5
        go_wp2_with (first | (refine' xAb hR rfl rfl rfl ?_; clear hR; intro blk w hR) | (refine' xAa hR rfl rfl inferInstance ?_; clear hR; intro blk w hR) | (refine' aFq hR rfl rfl rfl inferInstance ?_) | (refine' aGq hR rfl rfl rfl inferInstance ?_) | (refine' aHq hR rfl rfl rfl inferInstance ?_) | (refine' aDq hR rfl rfl rfl inferInstance rfl ?_; clear hR; intro w hR) | (refine' aEq hR rfl rfl rfl inferInstance rfl rfl ?_; clear hR; intro w hR) | fail)
        refine xAg hR [0, 0, 0, 0, 0, 0, 0, 0, 0, 0, 0, 0, 0, 0, 0, 0, 0, 0, 0, 0, 0, 0, 0, 0, 0, 0, 0, 0, 0, 0, 0, 2] [] xCt (by kernel_rfl) rfl rfl (fun K hK => ?_)
        clear hR
        repeat ((first | (refine xBj ?_) | (refine' xAs (by decide) rfl (.inl rfl) rfl ?ha ?_) | (refine' xAs (by decide) rfl (.inr rfl) rfl ?ha ?_) | (refine' xAr rfl rfl rfl inferInstance ?hm ?hn ?ha ?_; (case hm => first | with_reducible assumption | repeat (first | exact .head _ | with_reducible assumption | apply mC)); (case hn => first | rfl | simp)) | (refine' xAm rfl rfl rfl inferInstance ?hm ?hv ?hn ?ha ?_; (case hm => first | with_reducible assumption | repeat (first | exact .head _ | with_reducible assumption | apply mC)); (case hv => first | with_reducible assumption | (simp only [kC, kD, kE, kF]; try rfl)); (case hn => first | rfl | simp)) | (refine' xAi rfl rfl rfl inferInstance ?hm ?hv ?ha ?_; (case hm => first | with_reducible assumption | repeat (first | exact .head _ | with_reducible assumption | apply mC)); (case hv => first | rfl | with_reducible assumption)) | (refine' xAn rfl rfl rfl inferInstance ?hm ?hv ?hn ?ha ?_; (case hm => first | with_reducible assumption | repeat (first | exact .head _ | with_reducible assumption | apply mC)); (case hv => first | with_reducible assumption | (simp only [kC, kD, kE, kF]; try rfl)); (case hn => first | rfl | simp)) | (refine' xAj rfl rfl rfl inferInstance ?hm ?hv ?ha ?_; (case hm => first | with_reducible assumption | repeat (first | exact .head _ | with_reducible assumption | apply mC)); (case hv => first | rfl | with_reducible assumption)) | ((first | refine' xAd (by decide) rfl rfl rfl rfl (fun w => ?hq) ?ha ?_ | refine' xBf (by decide) rfl rfl rfl rfl (fun w => ?hq) ?ha ?_ | refine' xAp (by decide) rfl rfl rfl (fun w => ?hq) ?ha ?_ | refine' xAe (by decide) rfl rfl rfl (fun w => ?hq) ?ha ?_ | refine' xAo (by decide) rfl rfl rfl (fun w => ?hq) ?ha ?_ | refine' xBd (by decide) rfl rfl rfl rfl (fun w => ?hq) ?ha ?_ | refine' xBc (by decide) rfl rfl rfl rfl rfl rfl (fun w => ?hq) ?ha ?_ | refine' xBb (by decide) rfl rfl (fun w => ?hq) ?ha ?_ | refine' xAq (by decide) rfl rfl rfl (fun w => ?hq) ?ha ?_ | refine' xBe (by decide) rfl rfl rfl (fun w => ?hq) ?ha ?_); (case hq => go_simp; try rfl)) | (refine' xAh (by decide) rfl rfl rfl ?ha ?_) | (refine' xBl (by decide) rfl rfl rfl rfl ?ha ?_) | (refine' xBk (by decide) rfl ?ha ?_) | (refine' xBg rfl rfl rfl (xBi Tryz.func114 (by kernel_rfl) (by kernel_rfl) _) (fun w => c1 w) ?ha ?_) | (refine' xBg rfl rfl rfl (xBi Tryz.func114 (by kernel_rfl) (by kernel_rfl) _) (fun w => c2 w) ?ha ?_) | (refine' xBg rfl rfl rfl (xBi Tryz.func114 (by kernel_rfl) (by kernel_rfl) _) (fun w => c3 w) ?ha ?_) | (refine' hd_unOpV (by decide) rfl rfl rfl un ?ha ?_; (case ha => simp only [kP, kQ, kA, kB]; try rfl))); try (case ha => simp only [kP, kQ, kA, kB]; try rfl))
        refine xBs (hK _ _ ?_)
        clear hK K
        refine xBx (fun Q hQ => ?_)
        try simp only [List.nil_append, List.cons_append]
        repeat ((first | refine' xBa rfl (.inl rfl) rfl ?hk ?ha ?_ | refine' xBa rfl (.inr rfl) rfl ?hk ?ha ?_ | (refine' xAv rfl rfl rfl inferInstance rfl ?hs rfl rfl ?hn ?hk ?ha ?_; (case hs => repeat (first | exact xAx.head | apply xAx.tail)); (case hn => first | rfl | simp)) | (refine' xAl rfl rfl rfl inferInstance rfl rfl ?hs ?hn ?hl ?hk ?ha ?_; (case hs => repeat (first | exact xAx.head | apply xAx.tail)); (case hn => first | exact oD rfl | (show _ < 4; with_reducible assumption) | (simp; try omega)); (case hl => first | with_reducible assumption | (simp only [nl, kA, kB]; first | done | rfl) | rfl)) | (refine' xAw rfl rfl rfl inferInstance rfl rfl ?hvn ?hs ?hn ?hl ?hk ?ha ?_; (case hvn => first | rfl | simp); (case hs => repeat (first | exact xAx.head | apply xAx.tail)); (case hn => first | exact oD rfl | (show _ < 4; with_reducible assumption) | (simp; try omega)); (case hl => first | with_reducible assumption | (simp only [nl, kA, kB]; first | done | rfl) | rfl)) | (refine' xBm rfl (fun w => ?hq) ?hk ?ha ?_; (case hq => go_simp; try rfl))); (case hk => intro p hp; first | exact absurd hp List.not_mem_nil | (obtain rfl := List.mem_singleton.1 hp; repeat (first | exact List.Mem.head _ | with_reducible assumption | apply mC))); (case ha => simp only [kP, kQ, kA, kB]; try rfl))
        refine xBw (fun w hR => hQ _ _ ?_)
        clear hQ Q
        go_wp2_with (first | (refine' xAb hR rfl rfl rfl ?_; clear hR; intro blk w hR) | (refine' xAa hR rfl rfl inferInstance ?_; clear hR; intro blk w hR) | (refine' aFq hR rfl rfl rfl inferInstance ?_) | (refine' aGq hR rfl rfl rfl inferInstance ?_) | (refine' aHq hR rfl rfl rfl inferInstance ?_) | (refine' aDq hR rfl rfl rfl inferInstance rfl ?_; clear hR; intro w hR) | (refine' aEq hR rfl rfl rfl inferInstance rfl rfl ?_; clear hR; intro w hR) | fail)
        refine xAg hR [0, 0, 0, 0, 0, 0, 0, 0, 0, 0, 0, 0, 0, 0, 0, 0, 0, 0, 0, 0, 0, 0, 0, 0, 2] [] xCt (by kernel_rfl) rfl rfl (fun K hK => ?_)
        clear hR
        repeat ((first | (refine xBj ?_) | (refine' xAs (by decide) rfl (.inl rfl) rfl ?ha ?_) | (refine' xAs (by decide) rfl (.inr rfl) rfl ?ha ?_) | (refine' xAr rfl rfl rfl inferInstance ?hm ?hn ?ha ?_; (case hm => first | with_reducible assumption | repeat (first | exact .head _ | with_reducible assumption | apply mC)); (case hn => first | rfl | simp)) | (refine' xAm rfl rfl rfl inferInstance ?hm ?hv ?hn ?ha ?_; (case hm => first | with_reducible assumption | repeat (first | exact .head _ | with_reducible assumption | apply mC)); (case hv => first | with_reducible assumption | (simp only [kC, kD, kE, kF]; try rfl)); (case hn => first | rfl | simp)) | (refine' xAi rfl rfl rfl inferInstance ?hm ?hv ?ha ?_; (case hm => first | with_reducible assumption | repeat (first | exact .head _ | with_reducible assumption | apply mC)); (case hv => first | rfl | with_reducible assumption)) | (refine' xAn rfl rfl rfl inferInstance ?hm ?hv ?hn ?ha ?_; (case hm => first | with_reducible assumption | repeat (first | exact .head _ | with_reducible assumption | apply mC)); (case hv => first | with_reducible assumption | (simp only [kC, kD, kE, kF]; try rfl)); (case hn => first | rfl | simp)) | (refine' xAj rfl rfl rfl inferInstance ?hm ?hv ?ha ?_; (case hm => first | with_reducible assumption | repeat (first | exact .head _ | with_reducible assumption | apply mC)); (case hv => first | rfl | with_reducible assumption)) | ((first | refine' xAd (by decide) rfl rfl rfl rfl (fun w => ?hq) ?ha ?_ | refine' xBf (by decide) rfl rfl rfl rfl (fun w => ?hq) ?ha ?_ | refine' xAp (by decide) rfl rfl rfl (fun w => ?hq) ?ha ?_ | refine' xAe (by decide) rfl rfl rfl (fun w => ?hq) ?ha ?_ | refine' xAo (by decide) rfl rfl rfl (fun w => ?hq) ?ha ?_ | refine' xBd (by decide) rfl rfl rfl rfl (fun w => ?hq) ?ha ?_ | refine' xBc (by decide) rfl rfl rfl rfl rfl rfl (fun w => ?hq) ?ha ?_ | refine' xBb (by decide) rfl rfl (fun w => ?hq) ?ha ?_ | refine' xAq (by decide) rfl rfl rfl (fun w => ?hq) ?ha ?_ | refine' xBe (by decide) rfl rfl rfl (fun w => ?hq) ?ha ?_); (case hq => go_simp; try rfl)) | (refine' xAh (by decide) rfl rfl rfl ?ha ?_) | (refine' xBl (by decide) rfl rfl rfl rfl ?ha ?_) | (refine' xBk (by decide) rfl ?ha ?_) | (refine' xBg rfl rfl rfl (xBi Tryz.func114 (by kernel_rfl) (by kernel_rfl) _) (fun w => c4 w) ?ha ?_) | (refine' xBg rfl rfl rfl (xBi Tryz.func114 (by kernel_rfl) (by kernel_rfl) _) (fun w => c5 w) ?ha ?_) | (refine' xBg rfl rfl rfl (xBi Tryz.func114 (by kernel_rfl) (by kernel_rfl) _) (fun w => c6 w) ?ha ?_)); try (case ha => simp only [kP, kQ, kA, kB]; try rfl))
        refine xBs (hK _ _ ?_)
        clear hK K
        refine xBx (fun Q hQ => ?_)
        try simp only [List.nil_append, List.cons_append]
        repeat ((first | refine' xBa rfl (.inl rfl) rfl ?hk ?ha ?_ | refine' xBa rfl (.inr rfl) rfl ?hk ?ha ?_ | (refine' xAv rfl rfl rfl inferInstance rfl ?hs rfl rfl ?hn ?hk ?ha ?_; (case hs => repeat (first | exact xAx.head | apply xAx.tail)); (case hn => first | rfl | simp)) | (refine' xAl rfl rfl rfl inferInstance rfl rfl ?hs ?hn ?hl ?hk ?ha ?_; (case hs => repeat (first | exact xAx.head | apply xAx.tail)); (case hn => first | exact oD rfl | (show _ < 4; with_reducible assumption) | (simp; try omega)); (case hl => first | with_reducible assumption | (simp only [nl, kA, kB]; first | done | rfl) | rfl)) | (refine' xAw rfl rfl rfl inferInstance rfl rfl ?hvn ?hs ?hn ?hl ?hk ?ha ?_; (case hvn => first | rfl | simp); (case hs => repeat (first | exact xAx.head | apply xAx.tail)); (case hn => first | exact oD rfl | (show _ < 4; with_reducible assumption) | (simp; try omega)); (case hl => first | with_reducible assumption | (simp only [nl, kA, kB]; first | done | rfl) | rfl)) | (refine' xBm rfl (fun w => ?hq) ?hk ?ha ?_; (case hq => go_simp; try rfl))); (case hk => intro p hp; first | exact absurd hp List.not_mem_nil | (obtain rfl := List.mem_singleton.1 hp; repeat (first | exact List.Mem.head _ | with_reducible assumption | apply mC))); (case ha => simp only [kP, kQ, kA, kB]; try rfl))
        refine xBw (fun w hR => hQ _ _ ?_)
        clear hQ Q
        go_wp2_with (first | (refine' xAb hR rfl rfl rfl ?_; clear hR; intro blk w hR) | (refine' xAa hR rfl rfl inferInstance ?_; clear hR; intro blk w hR) | (refine' aFq hR rfl rfl rfl inferInstance ?_) | (refine' aGq hR rfl rfl rfl inferInstance ?_) | (refine' aHq hR rfl rfl rfl inferInstance ?_) | (refine' aDq hR rfl rfl rfl inferInstance rfl ?_; clear hR; intro w hR) | (refine' aEq hR rfl rfl rfl inferInstance rfl rfl ?_; clear hR; intro w hR) | fail)
        exact hK.out _ _ (xAu rfl rfl rfl) hR
      case he =>
        clear hR
        intro tm w ht hR K
        simp only [Int.natCast_zero, Int.sub_zero] at ht
        simp only [Nat.sub_zero] at hR
        repeat (first | (obtain ⟨x, tm', e, ht'⟩ := xAf ht; clear ht; subst e; have ht := ht'; clear ht') | (obtain ⟨tm', e, ht'⟩ := xAc ht; clear ht; subst e; have ht := ht'; clear ht'))
        obtain rfl := xAk ht
        clear ht
        have hres : r = addS (runN s (sched b 64) 64) s := by rw [← hr.out]; unfold takeN; rfl
        clear hr wok
        generalize runN s (sched b 64) 64 = st at *
        replace hres := Held.mk hres
        rw [← sumRow_zero st s, s8L_row s] at hR
        go_wp2_with (first | (refine' xAb hR rfl rfl rfl ?_; clear hR; intro blk w hR) | (refine' xAa hR rfl rfl inferInstance ?_; clear hR; intro blk w hR) | (refine' aFq hR rfl rfl rfl inferInstance ?_) | (refine' aGq hR rfl rfl rfl inferInstance ?_) | (refine' aHq hR rfl rfl rfl inferInstance ?_) | (refine' aDq hR rfl rfl rfl inferInstance rfl ?_; clear hR; intro w hR) | (refine' aEq hR rfl rfl rfl inferInstance rfl rfl ?_; clear hR; intro w hR) | fail)
        rename_i K3 k3
        refine' xCa (false :: false :: false :: false :: false :: false :: false :: false :: false :: false :: false :: false :: false :: false :: false :: false :: false :: false :: false :: false :: false :: false :: false :: false :: false :: false :: false :: false :: false :: false :: false :: false :: false :: false :: false :: false :: false :: false :: false :: false :: false :: false :: false :: false :: false :: false :: false :: false :: false :: false :: false :: false :: false :: false :: false :: false :: false :: false :: false :: false :: false :: false :: false :: false :: false :: false :: false :: false :: false :: false :: false :: false :: false :: false :: false :: false :: false :: false :: false :: false :: false :: false :: false :: false :: false :: false :: false :: false :: false :: false :: false :: false :: false :: false :: false :: false :: false :: false :: false :: false :: false :: false :: false :: false :: false :: false :: false :: false :: false :: false :: false :: false :: false :: false :: false :: false :: false :: false :: false :: false :: false :: false :: false :: false :: false :: false :: false :: false :: false :: false :: false :: false :: false :: false :: false :: false :: false :: false :: false :: false :: false :: false :: false :: false :: false :: false :: false :: false :: false :: false :: false :: false :: false :: false :: false :: false :: false :: false :: false :: false :: false :: false :: false :: false :: false :: false :: false :: false :: false :: false :: false :: false :: false :: false :: false :: false :: false :: false :: false :: false :: false :: true :: true :: true :: true :: true :: true :: true :: true :: true :: true :: true :: true :: true :: false :: []) (fun j l => l.set 18 (.int .i64 ((8 : Int) - (j : Int)))) (fun j => (blk, .cells (sumRow st s (8 - j)).toArray 111) :: (bw, .cells (wRow b 64).toArray 128) :: (b2', .cells (s8L zeroS).toArray 111) :: (b1', .cells (u32s 8 (getF s)).toArray 111) :: L) 8 ?h0 ?hR ?hs ?he
        case hR => exact hR
        case h0 => exact xAu rfl rfl rfl
        case hs =>
          clear hR k3
          intro j tm w hj ht hR K hK
          repeat (first | (obtain ⟨x, tm', e, ht'⟩ := xAf ht; clear ht; subst e; have ht := ht'; clear ht') | (obtain ⟨tm', e, ht'⟩ := xAc ht; clear ht; subst e; have ht := ht'; clear ht'))
          obtain rfl := xAk ht
          clear ht
          obtain ⟨k, hk'⟩ : ∃ k, 8 - (j + 1) = k := ⟨_, rfl⟩
          have e1 : (8 : Int) - ((j + 1 : Nat) : Int) = (k : Int) := by omega
          have e2 : (8 : Int) - (j : Int) = (k : Int) + 1 := by omega
          have e3 : 8 - j = k + 1 := by omega
          rw [hk'] at hR
          simp only [e2, e3] at hK
          rw [e1]
          have k8 : k < 8 := by omega
          clear e1 e2 e3 hk' hj
          have g0 : 0 ≤ (k : Int) := by omega
          have g1 : (k : Int) < 8 := by omega
          have d1 := sumRow_at st s k8
          have d2 := u32s_at (w := getF s) k8
          have hset := sumRow_set st s (i := k) (x := (getF st k + getF s k) % 4294967296) rfl
          have q : IntKind.u32.wrap ((getF st k : Int) + (getF s k : Int)) = (((getF st k + getF s k) % 4294967296 : Nat) : Int) := by
            rw [IntKind.wrap_u32]; omega
          generalize (getF st k + getF s k) % 4294967296 = v at *
          generalize getF st k = v1 at *
          generalize getF s k = v2 at *
          go_wp2_with (first | (refine' xAb hR rfl rfl rfl ?_; clear hR; intro blk w hR) | (refine' xAa hR rfl rfl inferInstance ?_; clear hR; intro blk w hR) | (refine' aFq hR rfl rfl rfl inferInstance ?_) | (refine' aGq hR rfl rfl rfl inferInstance ?_) | (refine' aHq hR rfl rfl rfl inferInstance ?_) | (refine' aDq hR rfl rfl rfl inferInstance rfl ?_; clear hR; intro w hR) | (refine' aEq hR rfl rfl rfl inferInstance rfl rfl ?_; clear hR; intro w hR) | fail)
          refine xAg hR [0, 0, 0, 0, 0, 0, 0, 0, 0, 2] [] xCt (by kernel_rfl) rfl rfl (fun K hK => ?_)
          clear hR
          repeat ((first | (refine xBj ?_) | (refine' xAs (by decide) rfl (.inl rfl) rfl ?ha ?_) | (refine' xAs (by decide) rfl (.inr rfl) rfl ?ha ?_) | (refine' xAr rfl rfl rfl inferInstance ?hm ?hn ?ha ?_; (case hm => first | with_reducible assumption | repeat (first | exact .head _ | with_reducible assumption | apply mC)); (case hn => first | rfl | simp)) | (refine' xAm rfl rfl rfl inferInstance ?hm ?hv ?hn ?ha ?_; (case hm => first | with_reducible assumption | repeat (first | exact .head _ | with_reducible assumption | apply mC)); (case hv => first | with_reducible assumption | (simp only [kC, kD, kE, kF]; try rfl)); (case hn => first | rfl | simp)) | (refine' xAi rfl rfl rfl inferInstance ?hm ?hv ?ha ?_; (case hm => first | with_reducible assumption | repeat (first | exact .head _ | with_reducible assumption | apply mC)); (case hv => first | rfl | with_reducible assumption)) | (refine' xAn rfl rfl rfl inferInstance ?hm ?hv ?hn ?ha ?_; (case hm => first | with_reducible assumption | repeat (first | exact .head _ | with_reducible assumption | apply mC)); (case hv => first | with_reducible assumption | (simp only [kC, kD, kE, kF]; try rfl)); (case hn => first | rfl | simp)) | (refine' xAj rfl rfl rfl inferInstance ?hm ?hv ?ha ?_; (case hm => first | with_reducible assumption | repeat (first | exact .head _ | with_reducible assumption | apply mC)); (case hv => first | rfl | with_reducible assumption)) | ((first | refine' xAd (by decide) rfl rfl rfl rfl (fun w => ?hq) ?ha ?_ | refine' xBf (by decide) rfl rfl rfl rfl (fun w => ?hq) ?ha ?_ | refine' xAp (by decide) rfl rfl rfl (fun w => ?hq) ?ha ?_ | refine' xAe (by decide) rfl rfl rfl (fun w => ?hq) ?ha ?_ | refine' xAo (by decide) rfl rfl rfl (fun w => ?hq) ?ha ?_ | refine' xBd (by decide) rfl rfl rfl rfl (fun w => ?hq) ?ha ?_ | refine' xBc (by decide) rfl rfl rfl rfl rfl rfl (fun w => ?hq) ?ha ?_ | refine' xBb (by decide) rfl rfl (fun w => ?hq) ?ha ?_ | refine' xAq (by decide) rfl rfl rfl (fun w => ?hq) ?ha ?_ | refine' xBe (by decide) rfl rfl rfl (fun w => ?hq) ?ha ?_); (case hq => go_simp; try rfl)) | (refine' xAh (by decide) rfl rfl rfl ?ha ?_) | (refine' xBl (by decide) rfl rfl rfl rfl ?ha ?_) | (refine' xBk (by decide) rfl ?ha ?_) | fail); try (case ha => simp only [kP, kQ, kA, kB]; try rfl))
          refine xBs (hK _ _ ?_)
          clear hK K
          refine xBx (fun Q hQ => ?_)
          try simp only [List.nil_append, List.cons_append]
          repeat ((first | refine' xBa rfl (.inl rfl) rfl ?hk ?ha ?_ | refine' xBa rfl (.inr rfl) rfl ?hk ?ha ?_ | (refine' xAv rfl rfl rfl inferInstance rfl ?hs rfl rfl ?hn ?hk ?ha ?_; (case hs => repeat (first | exact xAx.head | apply xAx.tail)); (case hn => first | rfl | simp)) | (refine' xAl rfl rfl rfl inferInstance rfl rfl ?hs ?hn ?hl ?hk ?ha ?_; (case hs => repeat (first | exact xAx.head | apply xAx.tail)); (case hn => first | exact oD rfl | (show _ < 4; with_reducible assumption) | (simp; try omega)); (case hl => first | with_reducible assumption | (simp only [nl, kA, kB]; first | done | rfl) | rfl)) | (refine' xAw rfl rfl rfl inferInstance rfl rfl ?hvn ?hs ?hn ?hl ?hk ?ha ?_; (case hvn => first | rfl | simp); (case hs => repeat (first | exact xAx.head | apply xAx.tail)); (case hn => first | exact oD rfl | (show _ < 4; with_reducible assumption) | (simp; try omega)); (case hl => first | with_reducible assumption | (simp only [nl, kA, kB]; first | done | rfl) | rfl)) | (refine' xBm rfl (fun w => ?hq) ?hk ?ha ?_; (case hq => go_simp; try rfl))); (case hk => intro p hp; first | exact absurd hp List.not_mem_nil | (obtain rfl := List.mem_singleton.1 hp; repeat (first | exact List.Mem.head _ | with_reducible assumption | apply mC))); (case ha => simp only [kP, kQ, kA, kB]; try rfl))
          refine xBw (fun w hR => hQ _ _ ?_)
          clear hQ Q
          go_wp2_with (first | (refine' xAb hR rfl rfl rfl ?_; clear hR; intro blk w hR) | (refine' xAa hR rfl rfl inferInstance ?_; clear hR; intro blk w hR) | (refine' aFq hR rfl rfl rfl inferInstance ?_) | (refine' aGq hR rfl rfl rfl inferInstance ?_) | (refine' aHq hR rfl rfl rfl inferInstance ?_) | (refine' aDq hR rfl rfl rfl inferInstance rfl ?_; clear hR; intro w hR) | (refine' aEq hR rfl rfl rfl inferInstance rfl rfl ?_; clear hR; intro w hR) | fail)
          exact hK.out _ _ (xAu rfl rfl rfl) hR
        case he =>
          clear hR
          intro tm w ht hR K
          simp only [Int.natCast_zero, Int.sub_zero] at ht
          simp only [Nat.sub_zero] at hR
          rw [sumRow_all] at hR
          repeat (first | (obtain ⟨x, tm', e, ht'⟩ := xAf ht; clear ht; subst e; have ht := ht'; clear ht') | (obtain ⟨tm', e, ht'⟩ := xAc ht; clear ht; subst e; have ht := ht'; clear ht'))
          obtain rfl := xAk ht
          clear ht
          rw [← hres.out] at hR
          clear hres
          go_wp2_with (first | (refine' aDq hR rfl rfl rfl inferInstance rfl ?_; clear hR; intro w hR; refine cutHere ?_) | (refine' xAb hR rfl rfl rfl ?_; clear hR; intro blk w hR) | (refine' xAa hR rfl rfl inferInstance ?_; clear hR; intro blk w hR) | (refine' aFq hR rfl rfl rfl inferInstance ?_) | (refine' aGq hR rfl rfl rfl inferInstance ?_) | (refine' aHq hR rfl rfl rfl inferInstance ?_) | (refine' aDq hR rfl rfl rfl inferInstance rfl ?_; clear hR; intro w hR) | (refine' aEq hR rfl rfl rfl inferInstance rfl rfl ?_; clear hR; intro w hR) | fail)
          unfold Stop
          refine wpList_nil ?_
          simp only [Exit.then]
          rename_i Kz kz
          refine kz _ _ (wp_ret ?_)
          (refine' bodyPost_ret (xBq Tryz.results110 rfl (hR.loadAll (P := Tryz.prog) (ty := 111) ?hm ?hn)) rfl ⟨rfl, hR.drop1.drop1.drop1.drop1⟩; (case hm => exact .tail _ (.tail _ (.head _))); (case hn => rfl))
theorem block_any {B0 : Nat} {w0 w : World} {L : List (Nat × Obj)} (s : S8) (b : Nat → Nat) (hs : s.ok) (hb : ∀ j, b j < 256) (bb off cap kb : Nat) (l : List Value) (hm : (bb, Obj.cells l.toArray 5) ∈ L) (hl : ∀ j, j < 64 → l[off + j]? = some (.int .u8 (b j : Int))) (hk : (kb, Obj.cells (u32s 64 stepF).toArray 110) ∈ L) (hR : Rep B0 w0 L w) :
    Calls Tryz.prog 110 #[.agg (s8L s).toArray, .slice (some ⟨bb, off, none⟩) 64 cap, .slice (some ⟨kb, 0, none⟩) 64 64] w fun e w' => e = .returned (.agg (s8L (takeN s b)).toArray) ∧ Rep B0 w0 L w' := block_lit s _ b hs hb bb off cap kb l hm hl hk ⟨rfl⟩ hR
end Go.Proofs.YtgfoeongjhkdmaaGreat
