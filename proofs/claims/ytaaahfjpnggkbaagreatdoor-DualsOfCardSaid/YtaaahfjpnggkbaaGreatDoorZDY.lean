import Derived.Test.YtaaahfjpnggkbaaGreatDoorZDV
import Derived.Test.YtaaahfjpnggkbaaGreatDoorZDX
import Derived.Test.YtaaahfjpnggkbaaGreatDoorZDZ
set_option linter.unusedSimpArgs false
set_option linter.unusedVariables false
set_option maxRecDepth 100000
set_option maxHeartbeats 20000000
namespace Go.Proofs.YtaaahfjpnggkbaaGreatDoor
open Go.RowKit
section
attribute [local irreducible] Calls Instr.build Instr.buildSlice
theorem build_stopK (k : Int) (w : World) : (Instr.build 104 #[(0, .int .i64 k)]).run Tryz.prog w = .ok (.agg #[.int .i64 k]) w := by kernel_rfl
theorem must_no (x : Nat) (k : Int) (hk : k ≠ 0) (w : World) : Calls Tryz.prog 102 #[num x, .int .i64 k] w fun e w' => e = .panicked (stopP k) ∧ Below w.heap.size w w' := by
 have hR := Rep.init w
 have k1 : (k != 0) = true := by simp [hk]
 have k2 : (k == 0) = false := by simp [hk]
 go_enter Tryz.func102, Tryz.ntmps102
 go_wp2_with (first | (refine' aAq hR ?_; clear hR; intro blk w hR) | (refine' aBq hR ?_; clear hR; intro blk w hR) | (refine' aPq hR ?_) | (refine' aQq hR ?_) | (refine' aRq hR ?_) | (refine' aZq hR ?_; clear hR; intro w hR) | (refine' aAr hR ?_; clear hR; intro w hR) | (refine' xBs rfl rfl rfl (build_stopK k) ?_))
 exact ⟨rfl, rfl, hR.below⟩
section
variable {B0 : Nat} {w0 w : World} {p q g h n len cp : Nat} {a : Option Addr} {P : Nat → Nat}
theorem word1_arg (hp : p < B) (hq : q < B) (hA : NAt B0 w0 [] a len cp P) (hl : len ≤ 1000) (hno : ¬ (1 < q ∧ ∀ j, j < len → P j < q)) (hn0 : 1 ≤ n) (hn : n ≤ 1000) {gb b8 b5 b4 b3 : Nat} (M : List (Nat × Obj)) (hM : ∀ x ∈ M, x.2.isCells = true) (hR : Rep B0 w0 (M ++ wL p q g h n len cp a gb b8 b5 b4 b3 (fun _ => 0)) w) :
  Calls Tryz.prog 101 #[.pointer (some ⟨b8, 0, none⟩), .pointer (some ⟨b3, 0, none⟩), .pointer (some ⟨b5, 0, none⟩), .pointer (some ⟨b4, 0, none⟩)] w fun e w' => e = .panicked (stopP 1) ∧ Rep B0 w0 (M ++ wL p q g h n len cp a gb b8 b5 b4 b3 (fun _ => 0)) w' := by
 have m8 : (b8, Obj.cells [Value.slice (some ⟨gb, 0, none⟩) n n].toArray 27) ∈ M ++ wL p q g h n len cp a gb b8 b5 b4 b3 (fun _ => 0) := List.mem_append_right _ (.head _)
 have m5 : (b5, Obj.cells [Value.slice a len cp].toArray 27) ∈ M ++ wL p q g h n len cp a gb b8 b5 b4 b3 (fun _ => 0) := List.mem_append_right _ (.tail _ (.tail _ (.head _)))
 have m3 : (b3, Obj.cells (gl p q g h).toArray 26) ∈ M ++ wL p q g h n len cp a gb b8 b5 b4 b3 (fun _ => 0) := List.mem_append_right _ (.tail _ (.tail _ (.tail _ (.tail _ (.head _)))))
 obtain ⟨LL, hLL⟩ : ∃ LL, M ++ wL p q g h n len cp a gb b8 b5 b4 b3 (fun _ => 0) = LL := ⟨_, rfl⟩
 rw [hLL] at hR m8 m5 m3 ⊢
 clear hLL hM
 obtain ⟨x0, hx0⟩ : ∃ x, sOf q 1 = x := ⟨_, rfl⟩
 have lx0 : x0 < B := by
  rw [← hx0, xGz]
  split
  ·exact xEs
  ·exact Nat.lt_trans (by have := Int.emod_lt_of_pos (1 : Int) (show (0 : Int) < (q : Int) by omega); have := Int.emod_nonneg (1 : Int) (show (q : Int) ≠ 0 by omega); omega) hq
 have cO := SO (p := p) (g := g) (h := h) (n := 1) hq (by decide) (by decide) hx0
 have cA := fun (L : List (Nat × Obj)) (w : World) (hw : Rep B0 w0 L w) => at_no (g := g) (h := h) hp hq lx0 hl (hA.any (L := L)) (show ¬ okA q len P x0 from fun hh => hno hh.1) hw
 have cM := fun w => must_no 0 1 (by decide) w
 have u1 : (0 : Int) < (n : Int) := by omega
 have u2 : ¬ n = 0 := by omega
 clear hA hno hx0
 go_enter Tryz.func101, Tryz.ntmps101
 go_wp2_with (first | (refine' aAq hR ?_; clear hR; intro blk w hR) | (refine' aBq hR ?_; clear hR; intro blk w hR) | (refine' aPq hR ?_) | (refine' aQq hR ?_) | (refine' aRq hR ?_) | (refine' aZq hR ?_; clear hR; intro w hR) | (refine' aAr hR ?_; clear hR; intro w hR) | fail)
 try simp only [Act.put, kA, kB, List.setIfInBounds_toArray]
 refine' xBh (false :: false :: false :: false :: true :: true :: false :: false :: false :: true :: true :: true :: true :: true :: true :: true :: true :: true :: true :: true :: true :: true :: true :: true :: true :: true :: true :: true :: true :: true :: true :: true :: true :: true :: true :: true :: true :: true :: true :: true :: true :: true :: true :: true :: true :: true :: true :: true :: true :: true :: true :: true :: true :: []) (fun (v : Nat) l => l.set 8 (.int .i64 0)) (fun v => LL) (fun v => 1) (fun v => True) 0 ?h0 ?hO ?hR ?hs
 case h0 => exact xAn rfl rfl rfl
 case hO => exact trivial
 case hR => exact hR
 case hs =>
  clear hR
  intro v tm w hi ht hR K hK
  clear hK hi
  repeat (first | (obtain ⟨x, tm', e, ht'⟩ := xAg ht; clear ht; subst e; have ht := ht'; clear ht') | (obtain ⟨tm', e, ht'⟩ := xAd ht; clear ht; subst e; have ht := ht'; clear ht'))
  obtain rfl := xAl ht
  clear ht
  go_wp2_with (first | (refine' aAq hR ?_; clear hR; intro blk w hR) | (refine' aBq hR ?_; clear hR; intro blk w hR) | (refine' aPq hR ?_) | (refine' aQq hR ?_) | (refine' aRq hR ?_) | (refine' aZq hR ?_; clear hR; intro w hR) | (refine' aAr hR ?_; clear hR; intro w hR) | fail)
  try simp only [Act.put, kA, kB, List.setIfInBounds_toArray]
  refine xIu (Rep B0 w0 ((blk, .cells [Value.int .i64 0].toArray 3) :: LL)) (Rep B0 w0 ((blk, .cells [Value.int .i64 0].toArray 3) :: LL)) (stopP 1) hR.drew [0, 0, 0, 0, 0, 0, 0, 0, 0, 0, 0, 2, 2, 2] 11 2 xBo rfl rfl (by kernel_rfl) ?hQ (fun K hK => ?_)
  case hQ =>
   intro a' w' hd hw
   exact ⟨hd, rfl, hw.drop1⟩
  repeat ((first | (refine xAy ?_) | (refine' xAk (by decide) rfl (.inl rfl) rfl ?ha ?_) | (refine' xAk (by decide) rfl (.inr rfl) rfl ?ha ?_) | (refine' aSq ?ha ?_) | (refine' aTq ?ha ?_) | (refine' aUq ?ha ?_) | (refine' aVq ?ha ?_) | (refine' aWq ?ha ?_) | ((first | refine' xAc (by decide) rfl rfl rfl rfl (fun w => ?hq) ?ha ?_ | refine' xAs (by decide) rfl rfl rfl rfl (fun w => ?hq) ?ha ?_ | refine' xAi (by decide) rfl rfl rfl (fun w => ?hq) ?ha ?_ | refine' xAb (by decide) rfl rfl rfl (fun w => ?hq) ?ha ?_ | refine' xAh (by decide) rfl rfl rfl (fun w => ?hq) ?ha ?_ | refine' xAq (by decide) rfl rfl rfl rfl (fun w => ?hq) ?ha ?_ | refine' xAr (by decide) rfl rfl rfl rfl rfl rfl (fun w => ?hq) ?ha ?_ | refine' xAo (by decide) rfl rfl (fun w => ?hq) ?ha ?_ | refine' xAj (by decide) rfl rfl rfl (fun w => ?hq) ?ha ?_ | refine' xAp (by decide) rfl rfl rfl (fun w => ?hq) ?ha ?_); (case hq => go_simp; try rfl)) | (refine' xAf (by decide) rfl rfl rfl ?ha ?_) | (refine' xAx (by decide) rfl rfl rfl rfl ?ha ?_) | (refine' xAw (by decide) rfl ?ha ?_) | (refine' xAt rfl rfl rfl (xAv Tryz.func103 (by kernel_rfl) (by kernel_rfl) _) (fun w => cO w) ?ha ?_) | (refine' xEx rfl rfl rfl (xAv Tryz.func8 (by kernel_rfl) (by kernel_rfl) _) (fun w hw => cA _ w hw) ?ha ?_)); try (case ha => simp only [kP, kQ, kA, kB]; try rfl))
  refine xBb (hK _ _ ?_)
  clear hK K
  refine p_call rfl rfl rfl rfl (fun w => xAv Tryz.func102 (by kernel_rfl) (by kernel_rfl) _ w) (fun w hw => (cM w).mono fun e w' hh => ⟨hh.1, hw.call hh.2⟩)
end
end
section
attribute [local irreducible] Calls Instr.build Instr.buildSlice
section
variable {B0 : Nat} {w0 w : World} {p q g h n len cp : Nat} {a : Option Addr} {P : Nat → Nat}
theorem word1_none (hp : p < B) (hq : q < B) (h1 : 1 < q) (hA : NAt B0 w0 [] a len cp P) (hl : len ≤ 1000) (hP : ∀ j, j < len → P j < q) (hd : ¬ difOK q n) (hn : n ≤ 1000) {gb b8 b5 b4 b3 : Nat} (M : List (Nat × Obj)) (hM : ∀ x ∈ M, x.2.isCells = true) (hR : Rep B0 w0 (M ++ wL p q g h n len cp a gb b8 b5 b4 b3 (fun _ => 0)) w) :
  Calls Tryz.prog 101 #[.pointer (some ⟨b8, 0, none⟩), .pointer (some ⟨b3, 0, none⟩), .pointer (some ⟨b5, 0, none⟩), .pointer (some ⟨b4, 0, none⟩)] w fun e w' => e = .panicked (stopP 7) ∧ Rep B0 w0 (M ++ []) w' := by
 have e0 : xBy (fun _ => 0) n = xBy (xCd q n len P 0 0) n := xBw fun j _ => by unfold xCd; simp
 replace hR := (show Rep B0 w0 (xDb [] ++ (M ++ wL p q g h n len cp a gb b8 b5 b4 b3 (fun _ => 0))) w from hR)
 unfold wL at hR
 rw [e0] at hR
 clear e0
 have mem8 : ∀ (X : List (Nat × Obj)) (F : Nat → Nat), (b8, Obj.cells [Value.slice (some ⟨gb, 0, none⟩) n n].toArray 27) ∈ X ++ (M ++ wL p q g h n len cp a gb b8 b5 b4 b3 F) := fun X F => List.mem_append_right _ (List.mem_append_right _ (.head _))
 have mem5 : ∀ (X : List (Nat × Obj)) (F : Nat → Nat), (b5, Obj.cells [Value.slice a len cp].toArray 27) ∈ X ++ (M ++ wL p q g h n len cp a gb b8 b5 b4 b3 F) := fun X F => List.mem_append_right _ (List.mem_append_right _ (.tail _ (.tail _ (.head _))))
 have mem4 : ∀ (X : List (Nat × Obj)) (F : Nat → Nat), (b4, Obj.cells [Value.int .i64 (n : Int)].toArray 3) ∈ X ++ (M ++ wL p q g h n len cp a gb b8 b5 b4 b3 F) := fun X F => List.mem_append_right _ (List.mem_append_right _ (.tail _ (.tail _ (.tail _ (.head _)))))
 have mem3 : ∀ (X : List (Nat × Obj)) (F : Nat → Nat), (b3, Obj.cells (gl p q g h).toArray 26) ∈ X ++ (M ++ wL p q g h n len cp a gb b8 b5 b4 b3 F) := fun X F => List.mem_append_right _ (List.mem_append_right _ (.tail _ (.tail _ (.tail _ (.tail _ (.head _))))))
 replace hR := (show Rep B0 w0 (xDb [] ++ (M ++ wL p q g h n len cp a gb b8 b5 b4 b3 (xCd q n len P 0 0))) w from hR)
 replace hA := Held.mk hA
 replace hP := Held.mk hP
 replace hd := Held.mk hd
 replace hM := Held.mk hM
 refine xGq (n := 5) Tryz.func101 rfl ?_
 simp only [Tryz.ntmps101, List.size_toArray, List.length_cons, List.length_nil, Nat.reduceAdd, Nat.reduceSub, Array.replicate_succ, Array.replicate_zero, List.push_toArray, List.append_toArray, List.nil_append, List.cons_append]
 have m8 := mem8 (xDb []) (xCd q n len P 0 0)
 refine xFd fun K hK => ?_
 go_wp2_with (first | (refine' aAq hR ?_; clear hR; intro blk w hR) | (refine' aBq hR ?_; clear hR; intro blk w hR) | (refine' aPq hR ?_) | (refine' aQq hR ?_) | (refine' aRq hR ?_) | (refine' aZq hR ?_; clear hR; intro w hR) | (refine' aAr hR ?_; clear hR; intro w hR) | fail)
 refine hK.out _ _ ?_
 clear hK K m8
 try simp only [Act.put, kA, kB, List.setIfInBounds_toArray]
 refine wpX_block ?_
 refine' loop_whileX (false :: false :: false :: false :: true :: true :: false :: false :: false :: true :: true :: true :: true :: true :: true :: true :: true :: true :: true :: true :: true :: true :: true :: true :: true :: true :: true :: true :: true :: true :: true :: true :: true :: true :: true :: true :: true :: true :: true :: true :: true :: true :: true :: true :: true :: true :: true :: true :: true :: true :: true :: true :: true :: []) (fun (v : Nat × List Nat) l => l.set 8 (.int .i64 (v.1 : Int))) (fun v => v.2.map coll) (fun v => xDb v.2 ++ (M ++ wL p q g h n len cp a gb b8 b5 b4 b3 (xCd q n len P v.1 0))) (fun v => n - v.1) (fun v => v.1 ≤ n ∧ difTo q n v.1) (0, []) ?h0 ?hO ?hR ?hs
 case h0 => exact xAn rfl rfl rfl
 case hO => exact ⟨Nat.zero_le _, fun s k hs => absurd hs (Nat.not_lt_zero s)⟩
 case hR => exact hR
 case hs =>
  clear hR
  intro v tm w hO ht hR K hK
  obtain ⟨i, Ds⟩ := v
  obtain ⟨hi, hto⟩ := hO
  simp only at hi hto ht hR
  have g0 : 0 ≤ (i : Int) := by omega
  by_cases hik : i = n
  ·rw [hik] at hto
   exact absurd (difTo_all hto) hd.out
  have t1 : (i : Int) < (n : Int) := by omega
  have hin : i < n := by omega
  have hi1 : i + 1 ≤ n := by omega
  have hmu : n - (i + 1) < n - i := by omega
  have ei : IntKind.i64.wrap ((i : Int) + 1) = (i : Int) + 1 := by rw [IntKind.wrap_i64]; omega
  obtain ⟨x0, hx0⟩ : ∃ x, ptF q i = x := ⟨_, rfl⟩
  have lx0 : x0 < q := by rw [← hx0]; exact ptF_lt h1 i
  obtain ⟨c0, hc0⟩ : ∃ x, atN q P len x0 = x := ⟨_, rfl⟩
  have lc0 : c0 < q := by rw [← hc0]; exact atN_lt h1 _ _ _
  have ec0 : c0F q len P i = c0 := by rw [c0F, hx0, hc0]
  have cO := SO (p := p) (g := g) (h := h) (n := (i : Int) + 1) hq (by omega) (by omega) hx0
  have cA := fun (L : List (Nat × Obj)) (w : World) (hw : Rep B0 w0 L w) => at_yes (g := g) (h := h) hp hq hl (hA.out.any (L := L)) ⟨⟨h1, hP.out⟩, lx0⟩ hw
  rw [hc0] at cA
  have cM := fun w => xEz c0 w
  have hset : ∀ (u v : Nat), ∀ j, j < n → xCd q n len P i v j = if j = i then v else xCd q n len P i u j := fun u v j _ => by
   unfold xCd
   by_cases hji : j = i
   ·simp [hji]
   ·simp [hji]
  have m8 := mem8 (xDb Ds) (xCd q n len P i 0)
  have m5 := mem5 (xDb Ds) (xCd q n len P i 0)
  have m4 := mem4 (xDb Ds) (xCd q n len P i 0)
  have m3 := mem3 (xDb Ds) (xCd q n len P i 0)
  replace hin := Held.mk hin
  replace hi1 := Held.mk hi1
  replace hmu := Held.mk hmu
  replace ec0 := Held.mk ec0
  replace hset := Held.mk hset
  replace hto := Held.mk hto
  clear hi hik hx0 hc0
  repeat (first | (obtain ⟨x, tm', e, ht'⟩ := xAg ht; clear ht; subst e; have ht := ht'; clear ht') | (obtain ⟨tm', e, ht'⟩ := xAd ht; clear ht; subst e; have ht := ht'; clear ht'))
  obtain rfl := xAl ht
  clear ht
  refine xFd fun K1 hK1 => ?_
  go_wp2_with (first | (refine' aAq hR ?_; clear hR; intro blk w hR) | (refine' aBq hR ?_; clear hR; intro blk w hR) | (refine' aPq hR ?_) | (refine' aQq hR ?_) | (refine' aRq hR ?_) | (refine' aZq hR ?_; clear hR; intro w hR) | (refine' aAr hR ?_; clear hR; intro w hR) | fail)
  refine hK1.out _ _ ?_
  clear hK1 K1
  try simp only [Act.put, kA, kB, List.setIfInBounds_toArray]
  refine xFd fun K1 hK1 => ?_
  go_wp2_with (first | (refine' aAq hR ?_; clear hR; intro blk w hR) | (refine' aBq hR ?_; clear hR; intro blk w hR) | (refine' aPq hR ?_) | (refine' aQq hR ?_) | (refine' aRq hR ?_) | (refine' aZq hR ?_; clear hR; intro w hR) | (refine' aAr hR ?_; clear hR; intro w hR) | fail)
  refine hK1.out _ _ ?_
  clear hK1 K1
  refine wpX_seq ?_
  refine wpX_block ?_
  refine xFd fun K1 hK1 => ?_
  go_wp2_with (first | (refine' aAq hR ?_; clear hR; intro blk w hR) | (refine' aBq hR ?_; clear hR; intro blk w hR) | (refine' aPq hR ?_) | (refine' aQq hR ?_) | (refine' aRq hR ?_) | (refine' aZq hR ?_; clear hR; intro w hR) | (refine' aAr hR ?_; clear hR; intro w hR) | fail)
  refine hK1.out _ _ ?_
  clear hK1 K1
  try simp only [Act.put, kA, kB, List.setIfInBounds_toArray]
  refine xFd fun K1 hK1 => ?_
  refine xAe hR [0, 0, 0, 0, 0, 0, 0, 0, 0, 0, 0, 0, 0, 2] [] xBo (by kernel_rfl) rfl rfl (fun K hK => ?_)
  clear hR
  repeat ((first | (refine xAy ?_) | (refine' xAk (by decide) rfl (.inl rfl) rfl ?ha ?_) | (refine' xAk (by decide) rfl (.inr rfl) rfl ?ha ?_) | (refine' aSq ?ha ?_) | (refine' aTq ?ha ?_) | (refine' aUq ?ha ?_) | (refine' aVq ?ha ?_) | (refine' aWq ?ha ?_) | ((first | refine' xAc (by decide) rfl rfl rfl rfl (fun w => ?hq) ?ha ?_ | refine' xAs (by decide) rfl rfl rfl rfl (fun w => ?hq) ?ha ?_ | refine' xAi (by decide) rfl rfl rfl (fun w => ?hq) ?ha ?_ | refine' xAb (by decide) rfl rfl rfl (fun w => ?hq) ?ha ?_ | refine' xAh (by decide) rfl rfl rfl (fun w => ?hq) ?ha ?_ | refine' xAq (by decide) rfl rfl rfl rfl (fun w => ?hq) ?ha ?_ | refine' xAr (by decide) rfl rfl rfl rfl rfl rfl (fun w => ?hq) ?ha ?_ | refine' xAo (by decide) rfl rfl (fun w => ?hq) ?ha ?_ | refine' xAj (by decide) rfl rfl rfl (fun w => ?hq) ?ha ?_ | refine' xAp (by decide) rfl rfl rfl (fun w => ?hq) ?ha ?_); (case hq => go_simp; try rfl)) | (refine' xAf (by decide) rfl rfl rfl ?ha ?_) | (refine' xAx (by decide) rfl rfl rfl rfl ?ha ?_) | (refine' xAw (by decide) rfl ?ha ?_) | (refine' xAt rfl rfl rfl (xAv Tryz.func103 (by kernel_rfl) (by kernel_rfl) _) (fun w => cO w) ?ha ?_) | (refine' xEx rfl rfl rfl (xAv Tryz.func8 (by kernel_rfl) (by kernel_rfl) _) (fun w hw => cA _ w hw) ?ha ?_) | (refine' xAt rfl rfl rfl (xAv Tryz.func102 (by kernel_rfl) (by kernel_rfl) _) (fun w => cM w) ?ha ?_)); try (case ha => simp only [kP, kQ, kA, kB]; try rfl))
  refine xBb (hK _ _ ?_)
  clear hK K
  refine xBe (fun Q hQ => ?_)
  try simp only [List.nil_append, List.cons_append]
  try simp only [kP, kQ, kA, kB]
  refine tl_y (xGx (t := 24) (i := i) (n := n) (v := c0) (f := xCd q n len P i 0) (f' := xCd q n len P i c0) rfl rfl rfl rfl hin.out (hset.out 0 c0) (show xBq ((blk, _) :: (xDb Ds ++ (M ++ wL p q g h n len cp a gb b8 b5 b4 b3 (xCd q n len P i 0)))) gb _ _ ((blk, _) :: (xDb Ds ++ (M ++ wL p q g h n len cp a gb b8 b5 b4 b3 (xCd q n len P i c0)))) from .tail (xBq.app (xBq.app (.tail .head) M) (xDb Ds)))) (fun p hp => absurd hp List.not_mem_nil) rfl ?_
  refine xBd (fun w hR => hQ _ _ ?_)
  clear hQ Q m8 m5 m4 m3 cO cA cM
  refine hK1.out _ _ ?_
  clear hK1 K1
  have m8 := mem8 (xDb Ds) (xCd q n len P i c0)
  have m4 := mem4 (xDb Ds) (xCd q n len P i c0)
  have m3 := mem3 (xDb Ds) (xCd q n len P i c0)
  refine xFd fun K1 hK1 => ?_
  go_wp2_with (first | (refine' aAq hR ?_; clear hR; intro blk w hR) | (refine' aBq hR ?_; clear hR; intro blk w hR) | (refine' aPq hR ?_) | (refine' aQq hR ?_) | (refine' aRq hR ?_) | (refine' aZq hR ?_; clear hR; intro w hR) | (refine' aAr hR ?_; clear hR; intro w hR) | (go_at_call 104; refine (xJi _ _ hR).mono ?_; clear hR; rintro e w ⟨Bn, Bi, rfl, hR⟩))
  refine hK1.out _ _ ?_
  clear hK1 K1
  try simp only [Act.put, kA, kB, List.setIfInBounds_toArray]
  obtain ⟨c, hc_⟩ : ∃ y, y = blk := ⟨_, rfl⟩
  subst hc_
  clear m8 m4 m3
  refine wpX_block ?_
  refine range_othersP (B0 := B0) (w0 := w0) (n := n) (i := i) Ds Bn Bi (fun pre => (Bn, Obj.cells [Value.int .i64 (n : Int)].toArray 3) :: (Bi, Obj.cells [Value.int .i64 ((i : Int) + 1)].toArray 3) :: (c, Obj.cells [Value.int .i64 (i : Int)].toArray 3) :: (M ++ wL p q g h n len cp a gb b8 b5 b4 b3 (xCd q n len P i (wdL q c0 i pre)))) (fun pre => ∀ y : Oth n i, y ∈ pre → Nat.gcd (sOf q ((i : Int) - (y.1 : Int))) q = 1) (stopP 7) rfl (by omega) (by have := hin.out; omega) (fun pre => .head _) (fun pre => .tail _ (.head _)) ?hR (fun y hy => absurd hy List.not_mem_nil) ?hL ?hvars ?hbody ?hdone ?hpan
  case hR =>
   rw [wdL_nil]
   exact hR.permN (List.perm_append_comm_assoc [_, _, _] (xDb Ds) _)
  case hL =>
   intro pre x hx
   rcases List.mem_cons.1 hx with rfl | hx
   ·rfl
   rcases List.mem_cons.1 hx with rfl | hx
   ·rfl
   rcases List.mem_cons.1 hx with rfl | hx
   ·rfl
   rcases List.mem_append.1 hx with hx | hx
   ·exact hM.out x hx
   ·unfold wL at hx
    simp only [List.mem_cons, List.not_mem_nil, or_false] at hx
    rcases hx with rfl | rfl | rfl | rfl | rfl <;> rfl
  case hvars =>
   clear hR
   intro k pre x W2 K hR hK
   replace hK := Held.mk hK
   simp only [List.set_cons_succ, List.set_cons_zero]
   gi_wp2
   exact hK.out _ hR
  case hbody =>
   clear hR
   intro k pre x W2 hMp hR
   unfold slotsO
   simp only [List.set_cons_succ, List.set_cons_zero]
   obtain ⟨cur, hcur⟩ : ∃ r, wdL q c0 i pre = r := ⟨_, rfl⟩
   have lcur : cur < q := by rw [← hcur]; exact wdL_lt h1 lc0 pre
   have hxl := x.2
   obtain ⟨y, hy⟩ : ∃ y, x.1 = y := ⟨_, rfl⟩
   rw [hy] at hxl
   obtain ⟨dv, hdv⟩ : ∃ r, sOf q ((i : Int) - (y : Int)) = r := ⟨_, rfl⟩
   have ldv : dv < q := by rw [← hdv]; exact sOf_lt h1 _
   rw [hcur] at hR
   rw [hy]
   have es : IntKind.i64.wrap ((i : Int) + 1 - ((y : Int) + 1)) = (i : Int) - (y : Int) := by have := hin.out; rw [IntKind.wrap_i64]; omega
   obtain ⟨C, hC⟩ : ∃ C : World → Prop, C = RK W2 B0 w0 ((Bn, Obj.cells [Value.int .i64 (n : Int)].toArray 3) :: (Bi, Obj.cells [Value.int .i64 ((i : Int) + 1)].toArray 3) :: (c, Obj.cells [Value.int .i64 (i : Int)].toArray 3) :: (M ++ wL p q g h n len cp a gb b8 b5 b4 b3 (xCd q n len P i cur))) := ⟨_, rfl⟩
   have l8 : ∀ w, C w → (loadVar 27 ⟨b8, 0, none⟩).run Tryz.prog w = .ok (.slice (some ⟨gb, 0, none⟩) n n) w := fun w hw => by
    rw [hC] at hw
    exact hw.rep.loadCell (P := Tryz.prog) (ty := 27) (mem8 [_, _, _] _) rfl
   have lc : ∀ w, C w → (loadVar 3 ⟨c, 0, none⟩).run Tryz.prog w = .ok (.int .i64 (i : Int)) w := fun w hw => by
    rw [hC] at hw
    exact hw.rep.loadCell (P := Tryz.prog) (ty := 3) (.tail _ (.tail _ (.head _))) rfl
   have l3 : ∀ w, C w → (loadVar 26 ⟨b3, 0, none⟩).run Tryz.prog w = .ok (grp p q g h) w := fun w hw => by
    rw [hC] at hw
    exact hw.rep.loadAll (P := Tryz.prog) (ty := 26) (mem3 [_, _, _] _) rfl
   have lr : ∀ w, C w → (loadVar 24 ⟨gb, i * 4, none⟩).run Tryz.prog w = .ok (num cur) w := fun w hw => by
    rw [hC] at hw
    have hrow := rowsN_row (f := xCd q n len P i cur) hin.out
    rw [show xCd q n len P i cur i = cur by unfold xCd; simp] at hrow
    exact hw.rep.loadRow (P := Tryz.prog) (ty := 24) (.tail _ (.tail _ (.tail _ (List.mem_append_right _ (.tail _ (.head _)))))) hrow rfl
   have kC : ∀ {w w' : World}, C w → Below w.heap.size w w' → C w' := fun hw hb => by
    rw [hC] at hw ⊢
    exact hw.call hb
   have q1 : ∀ w, C w → Calls Tryz.prog 103 #[grp p q g h, .int .i64 ((i : Int) - (y : Int))] w fun e w' => e = .returned (num dv) ∧ C w' := fun w hw => (SO (p := p) (g := g) (h := h) hq (by have := hin.out; omega) (by have := hin.out; omega) hdv w).mono fun e w' ⟨he, hb⟩ => ⟨he, kC hw hb⟩
   have hCR : C W2.drew := by rw [hC]; exact hR.drew
   refine wpIn_block ?_
   by_cases gdv : Nat.gcd dv q = 1
   case pos =>
    obtain ⟨iv, hiv⟩ : ∃ r, invM dv q = r := ⟨_, rfl⟩
    have liv : iv < q := by rw [← hiv]; exact (xGb h1 ldv gdv).1
    obtain ⟨nv, hnv⟩ : ∃ r, mulN cur iv q = r := ⟨_, rfl⟩
    have enx : wdL q c0 i (pre ++ [x]) = nv := by rw [wdL_snoc, hcur, hy, hdv, hiv, hnv]
    rw [enx]
    have q2 : ∀ w, C w → Calls Tryz.prog 106 #[grp p q g h, num dv] w fun e w' => e = .returned (.tuple #[num iv, .int .i64 0]) ∧ C w' := fun w hw => (SI (p := p) (g := g) (h := h) hq h1 ldv gdv hiv w).mono fun e w' ⟨he, hb⟩ => ⟨he, kC hw hb⟩
    have q3 : ∀ w, C w → Calls Tryz.prog 102 #[num iv, .int .i64 0] w fun e w' => e = .returned (num iv) ∧ C w' := fun w hw => (xEz iv w).mono fun e w' ⟨he, hb⟩ => ⟨he, kC hw hb⟩
    have q4 : ∀ w, C w → Calls Tryz.prog 105 #[grp p q g h, num cur, num iv] w fun e w' => e = .returned (.tuple #[num nv, .int .i64 0]) ∧ C w' := fun w hw => (SM (p := p) (g := g) (h := h) hq h1 lcur liv hnv w).mono fun e w' ⟨he, hb⟩ => ⟨he, kC hw hb⟩
    have q5 : ∀ w, C w → Calls Tryz.prog 102 #[num nv, .int .i64 0] w fun e w' => e = .returned (num nv) ∧ C w' := fun w hw => (xEz nv w).mono fun e w' ⟨he, hb⟩ => ⟨he, kC hw hb⟩
    have hMn : ∀ z : Oth n i, z ∈ pre ++ [x] → Nat.gcd (sOf q ((i : Int) - (z.1 : Int))) q = 1 := fun z hz => by
     rcases List.mem_append.1 hz with hz | hz
     ·exact hMp z hz
     ·rw [List.mem_singleton.1 hz, hy, hdv]; exact gdv
    replace hMn := Held.mk hMn
    clear kC hR hcur lcur hdv ldv gdv hiv liv hnv enx hxl hMp
    refine xDp C hCR [0, 0, 0, 0, 0, 0, 0, 0, 0, 0, 0, 0, 0, 0, 0, 0, 0, 0, 0, 0, 0, 0, 0, 2] (fun ⟨_, _, hh⟩ => hh) rfl xBo (by kernel_rfl) rfl rfl (fun K hK => ?_)
    repeat ((first | (refine' xCg rfl rfl rfl l8 ?ha ?_) | (refine' xCg rfl rfl rfl lc ?ha ?_) | (refine' xCg rfl rfl rfl l3 ?ha ?_) | (refine' xCg rfl rfl rfl lr ?ha ?_) | (refine' xCn rfl rfl rfl (fun w => xAv Tryz.func103 (by kernel_rfl) (by kernel_rfl) _ w) q1 ?ha ?_) | (refine' xCn rfl rfl rfl (fun w => xAv Tryz.func106 (by kernel_rfl) (by kernel_rfl) _ w) q2 ?ha ?_) | (refine' xCn rfl rfl rfl (fun w => xAv Tryz.func102 (by kernel_rfl) (by kernel_rfl) _ w) q3 ?ha ?_) | (refine' xCn rfl rfl rfl (fun w => xAv Tryz.func105 (by kernel_rfl) (by kernel_rfl) _ w) q4 ?ha ?_) | (refine' xCn rfl rfl rfl (fun w => xAv Tryz.func102 (by kernel_rfl) (by kernel_rfl) _ w) q5 ?ha ?_) | (refine xAy ?_) | (refine' xAk (by decide) rfl (.inl rfl) rfl ?ha ?_) | (refine' xAk (by decide) rfl (.inr rfl) rfl ?ha ?_) | (refine' aSq ?ha ?_) | (refine' aTq ?ha ?_) | (refine' aUq ?ha ?_) | (refine' aVq ?ha ?_) | (refine' aWq ?ha ?_) | ((first | refine' xAc (by decide) rfl rfl rfl rfl (fun w => ?hq) ?ha ?_ | refine' xAs (by decide) rfl rfl rfl rfl (fun w => ?hq) ?ha ?_ | refine' xAi (by decide) rfl rfl rfl (fun w => ?hq) ?ha ?_ | refine' xAb (by decide) rfl rfl rfl (fun w => ?hq) ?ha ?_ | refine' xAh (by decide) rfl rfl rfl (fun w => ?hq) ?ha ?_ | refine' xAq (by decide) rfl rfl rfl rfl (fun w => ?hq) ?ha ?_ | refine' xAr (by decide) rfl rfl rfl rfl rfl rfl (fun w => ?hq) ?ha ?_ | refine' xAo (by decide) rfl rfl (fun w => ?hq) ?ha ?_ | refine' xAj (by decide) rfl rfl rfl (fun w => ?hq) ?ha ?_ | refine' xAp (by decide) rfl rfl rfl (fun w => ?hq) ?ha ?_); (case hq => go_simp; try rfl)) | (refine' xAf (by decide) rfl rfl rfl ?ha ?_) | (refine' xAx (by decide) rfl rfl rfl rfl ?ha ?_) | (refine' xAw (by decide) rfl ?ha ?_)); try (case ha => simp only [kP, kQ, kA, kB]; try rfl))
    refine xBb (hK _ _ ?_)
    clear hK K
    refine xBe (fun Q hQ => ?_)
    refine' tl_storeC (RK W2 B0 w0 ((Bn, Obj.cells [Value.int .i64 (n : Int)].toArray 3) :: (Bi, Obj.cells [Value.int .i64 ((i : Int) + 1)].toArray 3) :: (c, Obj.cells [Value.int .i64 (i : Int)].toArray 3) :: (M ++ wL p q g h n len cp a gb b8 b5 b4 b3 (xCd q n len P i nv)))) rfl rfl rfl rfl (fun w hw => ?hq) ?ha ?_
    case hq =>
     rw [hC] at hw
     exact hw.storeRow (P := Tryz.prog) (ty := 24) (off := i * 4) (vs := nl nv) (l' := xBy (xCd q n len P i nv) n) rfl rfl (show xBq ((Bn, Obj.cells [Value.int .i64 (n : Int)].toArray 3) :: (Bi, Obj.cells [Value.int .i64 ((i : Int) + 1)].toArray 3) :: (c, Obj.cells [Value.int .i64 (i : Int)].toArray 3) :: (M ++ wL p q g h n len cp a gb b8 b5 b4 b3 (xCd q n len P i cur))) gb _ _ ((Bn, Obj.cells [Value.int .i64 (n : Int)].toArray 3) :: (Bi, Obj.cells [Value.int .i64 ((i : Int) + 1)].toArray 3) :: (c, Obj.cells [Value.int .i64 (i : Int)].toArray 3) :: (M ++ wL p q g h n len cp a gb b8 b5 b4 b3 (xCd q n len P i nv))) from .tail (.tail (.tail (xBq.app (.tail .head) M)))) (by have := hin.out; rw [xBf]; omega) (xEn hin.out (hset.out cur nv))
    case ha => simp only [Act.put, kA, kB, List.setIfInBounds_toArray]; try rfl
    refine xBd (fun w hw => hQ _ _ ?_)
    clear hQ Q
    exact ⟨hw, hMn.out⟩
   case neg =>
    obtain ⟨iv, hiv⟩ : ∃ r, (if okE dv q then invM dv q else 0) = r := ⟨_, rfl⟩
    have hE : invE dv q = 7 := by unfold invE; rw [if_pos (show okE dv q from ⟨h1, ldv⟩), if_neg gdv]
    have q2 : ∀ w, C w → Calls Tryz.prog 106 #[grp p q g h, num dv] w fun e w' => e = .returned (.tuple #[num iv, .int .i64 7]) ∧ C w' := fun w hw => (sinv_lit (p := p) (g := g) (h := h) (Nat.lt_trans ldv hq) hq hiv hE w).mono fun e w' ⟨he, hb⟩ => ⟨he, kC hw hb⟩
    have q3 : ∀ w, C w → Calls Tryz.prog 102 #[num iv, .int .i64 7] w fun e w' => e = .panicked (stopP 7) ∧ C w' := fun w hw => (must_no iv 7 (by decide) w).mono fun e w' ⟨he, hb⟩ => ⟨he, kC hw hb⟩
    have hfin : ∀ w, C w → RK W2 B0 w0 ((Bn, Obj.cells [Value.int .i64 (n : Int)].toArray 3) :: (Bi, Obj.cells [Value.int .i64 ((i : Int) + 1)].toArray 3) :: (c, Obj.cells [Value.int .i64 (i : Int)].toArray 3) :: (M ++ wL p q g h n len cp a gb b8 b5 b4 b3 (xCd q n len P i (wdL q c0 i pre)))) w := fun w hw => by rw [hcur]; rw [hC] at hw; exact hw
    replace hfin := Held.mk hfin
    clear kC hR hcur lcur hdv ldv gdv hiv hE hxl hMp
    refine xHg C C (stopP 7) hCR [0, 0, 0, 0, 0, 0, 0, 0, 0, 0, 0, 0, 0, 0, 0, 0, 0, 2, 2, 2, 2, 2, 2, 2] 17 6 (fun ⟨_, _, hh⟩ => hh) rfl xBo rfl rfl (by kernel_rfl) ?hQ (fun K hK => ?_)
    case hQ =>
     intro a' w' hd' hw
     exact ⟨hd', rfl, hfin.out w' hw⟩
    repeat ((first | (refine' xCg rfl rfl rfl l8 ?ha ?_) | (refine' xCg rfl rfl rfl lc ?ha ?_) | (refine' xCg rfl rfl rfl l3 ?ha ?_) | (refine' xCg rfl rfl rfl lr ?ha ?_) | (refine' xCn rfl rfl rfl (fun w => xAv Tryz.func103 (by kernel_rfl) (by kernel_rfl) _ w) q1 ?ha ?_) | (refine' xCn rfl rfl rfl (fun w => xAv Tryz.func106 (by kernel_rfl) (by kernel_rfl) _ w) q2 ?ha ?_) | (refine xAy ?_) | (refine' xAk (by decide) rfl (.inl rfl) rfl ?ha ?_) | (refine' xAk (by decide) rfl (.inr rfl) rfl ?ha ?_) | (refine' aSq ?ha ?_) | (refine' aTq ?ha ?_) | (refine' aUq ?ha ?_) | (refine' aVq ?ha ?_) | (refine' aWq ?ha ?_) | ((first | refine' xAc (by decide) rfl rfl rfl rfl (fun w => ?hq) ?ha ?_ | refine' xAs (by decide) rfl rfl rfl rfl (fun w => ?hq) ?ha ?_ | refine' xAi (by decide) rfl rfl rfl (fun w => ?hq) ?ha ?_ | refine' xAb (by decide) rfl rfl rfl (fun w => ?hq) ?ha ?_ | refine' xAh (by decide) rfl rfl rfl (fun w => ?hq) ?ha ?_ | refine' xAq (by decide) rfl rfl rfl rfl (fun w => ?hq) ?ha ?_ | refine' xAr (by decide) rfl rfl rfl rfl rfl rfl (fun w => ?hq) ?ha ?_ | refine' xAo (by decide) rfl rfl (fun w => ?hq) ?ha ?_ | refine' xAj (by decide) rfl rfl rfl (fun w => ?hq) ?ha ?_ | refine' xAp (by decide) rfl rfl rfl (fun w => ?hq) ?ha ?_); (case hq => go_simp; try rfl)) | (refine' xAf (by decide) rfl rfl rfl ?ha ?_) | (refine' xAx (by decide) rfl rfl rfl rfl ?ha ?_) | (refine' xAw (by decide) rfl ?ha ?_)); try (case ha => simp only [kP, kQ, kA, kB]; try rfl))
    refine xBb (hK _ _ ?_)
    clear hK K
    exact p_call rfl rfl rfl rfl (fun w => xAv Tryz.func102 (by kernel_rfl) (by kernel_rfl) _ w) q3
  case hdone =>
   clear hR
   intro D W2 hMd hR
   have ek : ((i + 1 : Nat) : Int) = (i : Int) + 1 := by omega
   replace ek := Held.mk ek
   have hnx : difTo q n (i + 1) := difTo_next hto.out fun t ht hit => hMd ⟨t, ht, fun e => hit e.symm⟩ (List.mem_filterMap.2 ⟨t, List.mem_range.2 ht, by rw [dif_pos ⟨ht, fun e => hit e.symm⟩]⟩)
   replace hnx := Held.mk hnx
   refine wpX_of_wp (n := 5) ?_
   go_wp2_with (first | (refine' aAq hR ?_; clear hR; intro blk w hR) | (refine' aBq hR ?_; clear hR; intro blk w hR) | (refine' aPq hR ?_) | (refine' aQq hR ?_) | (refine' aRq hR ?_) | (refine' aZq hR ?_; clear hR; intro w hR) | (refine' aAr hR ?_; clear hR; intro w hR) | fail)
   refine hK.out (i + 1, D :: Ds) _ _ ⟨hi1.out, hnx.out⟩ hmu.out (by simp only [ek.out]; exact xAn rfl rfl rfl) ?_
   have er : xBy (xCd q n len P i (wdL q c0 i (othL n i n))) n = xBy (xCd q n len P (i + 1) 0) n := xBw fun j hj => by
    unfold xCd
    by_cases h2 : j = i
    ·subst h2
     rw [if_neg (Nat.lt_irrefl j), if_pos rfl, if_pos (Nat.lt_succ_self j), wdL_all n (Nat.le_refl n), xFg, ec0.out]
    ·by_cases h3 : j < i
     ·rw [if_pos h3, if_pos (by omega)]
     ·rw [if_neg h3, if_neg h2, if_neg (by omega)]
      split <;> rfl
   show Rep B0 w0 (xDb (D :: Ds) ++ (M ++ wL p q g h n len cp a gb b8 b5 b4 b3 (xCd q n len P (i + 1) 0))) W2
   unfold wL at hR ⊢
   rw [er] at hR
   exact hR.weaken (List.Sublist.append (List.Sublist.refl _) (.cons _ (.cons _ (.cons _ (List.Sublist.refl _)))))
  case hpan =>
   clear hR
   intro D pre W2 hR
   refine xHd (L := _) (D :: Ds) W2 hR (fun W' hw => ⟨rfl, ?_⟩)
   exact hw.weaken (.cons _ (.cons _ (.cons _ (List.Sublist.append (List.Sublist.refl _) (List.nil_sublist _)))))
end
end
end Go.Proofs.YtaaahfjpnggkbaaGreatDoor
