/- The contract of the field's longer. -/
import Derived.Test.YtgfoeongjhkdmaaUPWts
set_option linter.unusedVariables false
set_option linter.unusedSimpArgs false
namespace Go.Proofs.Ytgfoeongjhkdmaa
open Go.RowKit
attribute [local irreducible] Calls Instr.build Instr.buildSlice Instr.makeSlice
section
variable {P : Program} {ops : Array Oper} {B0 : Nat} {w0 w : World} {L L' : List (Nat × Obj)} {r rest : List Oper} {o : Oper} {a : Act} {Q : Exit → Act → World → Prop} {Kp : List (Nat × Obj)} {v : Value}
theorem tl_y (hy : xBu P ops o v a (Rep B0 w0 L) (Rep B0 w0 L')) (hk : ∀ p, p ∈ Kp → p ∈ L') {a' : Act} (ha : a.put o.dst v = a') (h : tailM P ops (keeps B0 w0 Kp) Q r (Rep B0 w0 L') a') : tailM P ops (keeps B0 w0 Kp) Q (o :: r) (Rep B0 w0 L) a :=
  ⟨v, _, hy, ⟨L', rfl, hk⟩, by rw [ha]; exact h⟩
end
section
variable {ops : Array Oper} {B0 : Nat} {w0 w : World} {L L' : List (Nat × Obj)} {rest : List Oper} {o : Oper} {a : Act} {Q : Exit → Act → World → Prop}
theorem wpList_storeN (hR : Rep B0 w0 L w) (hg : o.guard = none) {x y : Operand} (hop : o.op = .store 24 x y) {b i n v : Nat} {f f' : Nat → Nat} {t : TypeId} (hx : a.eval x = .pointer (some ⟨b, i * 4, none⟩)) (hy : a.eval y = num v) (hi : i < n) (hf : ∀ j, j < n → f' j = if j = i then v else f j)
    (hs : xAw L b (.cells (xCg f n).toArray t) (.cells (xCg f' n).toArray t) L') (h : ∀ w', Rep B0 w0 L' w' → wpList Try.prog ops Q rest (a.put o.dst undef) w') : wpList Try.prog ops Q (o :: rest) a w :=
  wpList_plain hg fun _ hK => by
    obtain ⟨w', e, hR'⟩ := hR.storeRow (P := Try.prog) (ty := 24) (off := i * 4) (vs := nl v) rfl rfl hs (by rw [xBs, nl_len]; omega) (rowsN_set hi hf)
    unfold Oper.wp execOp
    simp only [hop, hx, hy, Instr.storeAt, Instr.sureAddr, Sem.run_bind, Sem.run_pure, Result.andThen_ok, e]
    exact hK _ _ (h _ hR')
theorem rowsN_row {f : Nat → Nat} {n j : Nat} (hj : j < n) : ((xCg f n).drop (j * 4)).take 4 = nl (f j) := by
  refine List.ext_getElem? fun k => ?_
  rw [List.getElem?_take]
  by_cases hk : k < 4
  · rw [if_pos hk, List.getElem?_drop, rowsN_at f n j k hj hk]
  · rw [if_neg hk]
    exact (List.getElem?_eq_none (by rw [nl_len]; omega)).symm
theorem rowsN_own {f : Nat → Nat} {n : Nat} (hn : n ≤ 1000000) : NOwn n (xCg f n) n f := ⟨Nat.le_refl _, by unfold maxLen; omega, xBs _ _, List.take_of_length_le (by rw [xBs]; exact Nat.le_refl _)⟩
end
noncomputable def lonF (q m : Nat) (P : Nat → Nat) (b j : Nat) : Nat := if j < m then subN (if j = 0 then 0 else P (j - 1)) (mulN (P j) b q) q else P (j - 1)
noncomputable def lonG (q m : Nat) (P : Nat → Nat) (b i j : Nat) : Nat := if j < i then lonF q m P b j else if j = i ∧ 0 < i then P (i - 1) else 0
section
variable {p q g h : Nat} {fb : Nat} {e : Int} {B0 : Nat} {w0 w : World} {L L' : List (Nat × Obj)} {a : Option Addr} {m cq : Nat} {P : Nat → Nat}
set_option maxRecDepth 100000 in
set_option maxHeartbeats 8000000 in
set_option maxRecDepth 100000 in
theorem longer_any {b : Nat} (h1 : 1 < q) (hq : q < B) (hb : b < q) (hP : ∀ j, j < m → P j < q) (hA : NAt B0 w0 L a m cq P) (hm : m ≤ 1000) (hm0 : 0 < m) (hfb : (fb, Obj.cells (pfl p q g h e).toArray 57) ∈ L) (hR : Rep B0 w0 L w) :
    Calls Try.prog 29 #[.pointer (some ⟨fb, 0, none⟩), .slice a m cq, num b] w fun en w' => ∃ gb, en = .returned (.slice (some ⟨gb, 0, none⟩) (m + 1) (m + 1)) ∧ Rep B0 w0 ((gb, .cells (xCg (lonF q m P b) (m + 1)).toArray 24) :: L) w' := by
  obtain ⟨m1, hm1⟩ : ∃ x, m + 1 = x := ⟨_, rfl⟩
  have f1 : IntKind.i64.wrap ((m : Int) + 1) = (m1 : Int) := by rw [IntKind.wrap_i64]; omega
  have hmk := make_numsZ m1 (by omega)
  rw [hm1]
  replace hA := Held.mk hA
  replace hP := Held.mk hP
  replace hm1 := Held.mk hm1
  replace hm0 := Held.mk hm0
  go_enter Try.func29, Try.ntmps29
  go_wp2_with (first | (refine' xAb hR rfl rfl rfl ?_; clear hR; intro blk w hR) | (refine' xAa hR rfl rfl inferInstance ?_; clear hR; intro blk w hR) | (refine' aFq hR rfl rfl rfl inferInstance ?_) | (refine' aGq hR rfl rfl rfl inferInstance ?_) | (refine' aHq hR rfl rfl rfl inferInstance ?_) | (refine' aIq hR rfl rfl rfl inferInstance rfl ?_; clear hR; intro w hR) | (refine' aJq hR rfl rfl rfl inferInstance rfl rfl ?_; clear hR; intro w hR) | (refine' wpList_makeRep hR rfl rfl rfl rfl hmk ?_; clear hR; intro gb w hR))
  have e0 : xCg (fun _ => 0) m1 = xCg (lonG q m P b 0) m1 := xCd (fun j hj => by unfold lonG; rw [if_neg (by omega), if_neg (by omega)])
  rw [e0] at hR
  clear e0 hmk
  try simp only [Act.put, kA, kB, List.setIfInBounds_toArray]
  refine' xBt (false :: false :: false :: false :: false :: false :: false :: false :: true :: false :: false :: false :: false :: false :: false :: false :: true :: true :: true :: true :: true :: true :: true :: true :: true :: true :: true :: true :: true :: true :: true :: true :: true :: true :: true :: true :: true :: true :: true :: true :: true :: true :: true :: false :: []) (fun (i : Nat) l => l.set 15 (.int .i64 (i : Int))) (fun i => (gb, .cells (xCg (lonG q m P b i) m1).toArray 24) :: (blk, .cells (nl b).toArray 24) :: L) (fun i => m - i) (fun i => i ≤ m) 0 ?h0 ?hO ?hR ?hs
  case h0 => exact xBh rfl rfl rfl
  case hO => exact Nat.zero_le _
  case hR => exact hR
  case hs =>
    clear hR
    intro i tm w hi ht hR K hK
    have g0 : 0 ≤ (i : Int) := by omega
    by_cases hik : i = m
    · subst hik
      have t1 : ¬ (i : Int) < (i : Int) := by omega
      have e1 : xCg (lonG q i P b i) m1 = xCg (lonF q i P b) m1 := xCd fun j hj => by
        have h0 := hm0.out
        have h1 := hm1.out
        unfold lonG
        by_cases hji : j < i
        · rw [if_pos hji]
        · obtain rfl : j = i := by omega
          rw [if_neg hji, if_pos ⟨rfl, h0⟩]
          unfold lonF
          rw [if_neg hji]
      replace hR := (show Rep _ _ ((gb, .cells (xCg (lonG q i P b i) m1).toArray 24) :: _) _ from hR)
      rw [e1] at hR
      obtain ⟨rows, hrows⟩ : ∃ x, xCg (lonF q i P b) m1 = x := ⟨_, rfl⟩
      rw [hrows] at hR
      replace hrows := Held.mk hrows
      clear hK hi hA hP hm0 e1
      repeat (first | (obtain ⟨x, tm', e, ht'⟩ := xAu ht; clear ht; subst e; have ht := ht'; clear ht') | (obtain ⟨tm', e, ht'⟩ := xAj ht; clear ht; subst e; have ht := ht'; clear ht'))
      obtain rfl := xAz ht
      clear ht
      go_wp2_with (first | (refine' xAb hR rfl rfl rfl ?_; clear hR; intro blk w hR) | (refine' xAa hR rfl rfl inferInstance ?_; clear hR; intro blk w hR) | (refine' aFq hR rfl rfl rfl inferInstance ?_) | (refine' aGq hR rfl rfl rfl inferInstance ?_) | (refine' aHq hR rfl rfl rfl inferInstance ?_) | (refine' aIq hR rfl rfl rfl inferInstance rfl ?_; clear hR; intro w hR) | (refine' aJq hR rfl rfl rfl inferInstance rfl rfl ?_; clear hR; intro w hR) | fail)
      go_ret
      exact ⟨gb, rfl, by rw [hrows.out]; exact hR.weaken ((List.sublist_cons_self _ _).cons_cons _)⟩
    · have hin : i < m := by omega
      have g1 : (i : Int) < (m : Int) := by omega
      have ei : IntKind.i64.wrap ((i : Int) + 1) = ((i + 1 : Nat) : Int) := by rw [IntKind.wrap_i64]; omega
      have hi1 : i + 1 ≤ m := by omega
      have hmu : m - (i + 1) < m - i := by omega
      have g2 : (i : Int) < (m1 : Int) := by have := hm1.out; omega
      have g3 : ((i + 1 : Nat) : Int) < (m1 : Int) := by have := hm1.out; omega
      have g3' : (i : Int) + 1 < (m1 : Int) := by have := hm1.out; omega
      have g4 : 0 ≤ ((i + 1 : Nat) : Int) := by omega
      have g4' : 0 ≤ (i : Int) + 1 := by omega
      have im1 : i < m1 := by have := hm1.out; omega
      have im2 : i + 1 < m1 := by have := hm1.out; omega
      obtain ⟨bb, off, rfl, hx⟩ := hA.out.at' (by omega)
      obtain ⟨y, hy⟩ : ∃ y, P i = y := ⟨_, rfl⟩
      have ly : y < q := by rw [← hy]; exact hP.out i hin
      have ld := fun (w : World) (hw : Rep B0 w0 L w) => xCj (hx w hw i hin)
      rw [hy] at ld
      obtain ⟨o, ho⟩ : ∃ o, lonG q m P b i i = o := ⟨_, rfl⟩
      have ho' : (if i = 0 then 0 else P (i - 1)) = o := by
        rw [← ho]
        unfold lonG
        rw [if_neg (Nat.lt_irrefl i)]
        by_cases h0 : i = 0
        · rw [if_pos h0, if_neg (by omega)]
        · rw [if_neg h0, if_pos ⟨rfl, by omega⟩]
      have lo : o < q := by
        rw [← ho']
        split
        · omega
        · exact hP.out (i - 1) (by omega)
      have row := rowsN_row (f := lonG q m P b i) im1
      rw [ho] at row
      obtain ⟨z, hz⟩ : ∃ z, mulN y b q = z := ⟨_, rfl⟩
      have lz : z < q := by rw [← hz]; exact mul_lt' h1 _ _
      obtain ⟨r, hr⟩ : ∃ r, subN o z q = r := ⟨_, rfl⟩
      have ct := fun (L' : List (Nat × Obj)) (w : World) (hmm : (fb, Obj.cells (pfl p q g h e).toArray 57) ∈ L') (hw : Rep B0 w0 L' w) => ftimes_ok h1 hq ly hb hz hmm hw
      have cl := fun (L' : List (Nat × Obj)) (w : World) (hmm : (fb, Obj.cells (pfl p q g h e).toArray 57) ∈ L') (hw : Rep B0 w0 L' w) => fless_ok h1 hq lo lz hr hmm hw
      obtain ⟨G1, hG1⟩ : ∃ G : Nat → Nat, G = fun j => if j = i then r else lonG q m P b i j := ⟨_, rfl⟩
      have hs1 : ∀ j, j < m1 → G1 j = if j = i then r else lonG q m P b i j := fun j _ => by rw [hG1]
      have hs2 : ∀ j, j < m1 → lonG q m P b (i + 1) j = if j = i + 1 then y else G1 j := fun j _ => by
        rw [hG1]
        unfold lonG
        by_cases h2 : j = i + 1
        · rw [if_pos h2, if_neg (by omega), if_pos ⟨h2, by omega⟩, Nat.add_sub_cancel, hy]
        · rw [if_neg h2]
          by_cases h3 : j = i
          · rw [h3, if_pos (by omega)]
            show lonF q m P b i = if i = i then r else _
            rw [if_pos rfl]
            unfold lonF
            rw [if_pos hin, hy, ho', hz, hr]
          · show _ = if j = i then r else _
            rw [if_neg h3]
            by_cases h4 : j < i
            · rw [if_pos (by omega), if_pos h4]
            · rw [if_neg (by omega), if_neg (by omega), if_neg h4, if_neg (by omega)]
      replace hi1 := Held.mk hi1
      replace hmu := Held.mk hmu
      replace hs1 := Held.mk hs1
      replace hs2 := Held.mk hs2
      replace ho := Held.mk ho
      replace im1 := Held.mk im1
      replace im2 := Held.mk im2
      have ldw := ld w hR.drop1.drop1
      clear hi hA hP hik hin hx hy ho' hz hr lo lz ly hm0 hG1
      repeat (first | (obtain ⟨x, tm', e, ht'⟩ := xAu ht; clear ht; subst e; have ht := ht'; clear ht') | (obtain ⟨tm', e, ht'⟩ := xAj ht; clear ht; subst e; have ht := ht'; clear ht'))
      obtain rfl := xAz ht
      clear ht
      go_wp2_with (first | (refine' xAb hR rfl rfl rfl ?_; clear hR; intro blk w hR) | (refine' xAa hR rfl rfl inferInstance ?_; clear hR; intro blk w hR) | (refine' aFq hR rfl rfl rfl inferInstance ?_) | (refine' aGq hR rfl rfl rfl inferInstance ?_) | (refine' aHq hR rfl rfl rfl inferInstance ?_) | (refine' aIq hR rfl rfl rfl inferInstance rfl ?_; clear hR; intro w hR) | (refine' aJq hR rfl rfl rfl inferInstance rfl rfl ?_; clear hR; intro w hR) | fail)
      refine xAi hR [0, 0, 0, 0, 0, 0, 0, 0, 0, 0, 0, 0, 0, 0, 0, 0, 2] [] xCf (by kernel_rfl) rfl rfl (fun K hK => ?_)
      clear hR
      repeat ((first | (refine xBl ?_) | (refine' xAr (by decide) rfl (.inl rfl) rfl ?ha ?_) | (refine' xAr (by decide) rfl (.inr rfl) rfl ?ha ?_) | (refine' xAp rfl rfl rfl inferInstance ?hm ?hn ?ha ?_; (case hm => first | with_reducible assumption | repeat (first | exact .head _ | with_reducible assumption | apply mC)); (case hn => first | rfl | simp)) | (refine' xAk rfl rfl rfl inferInstance ?hm ?hv ?hn ?ha ?_; (case hm => first | with_reducible assumption | repeat (first | exact .head _ | with_reducible assumption | apply mC)); (case hv => first | with_reducible assumption | (simp only [kC, kD, kE, kF]; try rfl)); (case hn => first | rfl | simp)) | (refine' xAf rfl rfl rfl inferInstance ?hm ?hv ?ha ?_; (case hm => first | with_reducible assumption | repeat (first | exact .head _ | with_reducible assumption | apply mC)); (case hv => first | rfl | with_reducible assumption)) | (refine' xAl rfl rfl rfl inferInstance ?hm ?hv ?hn ?ha ?_; (case hm => first | with_reducible assumption | repeat (first | exact .head _ | with_reducible assumption | apply mC)); (case hv => first | with_reducible assumption | (simp only [kC, kD, kE, kF]; try rfl)); (case hn => first | rfl | simp)) | (refine' xAe rfl rfl rfl inferInstance ?hm ?hv ?ha ?_; (case hm => first | with_reducible assumption | repeat (first | exact .head _ | with_reducible assumption | apply mC)); (case hv => first | rfl | with_reducible assumption)) | ((first | refine' xAd (by decide) rfl rfl rfl rfl (fun w => ?hq) ?ha ?_ | refine' xBb (by decide) rfl rfl rfl rfl (fun w => ?hq) ?ha ?_ | refine' xAm (by decide) rfl rfl rfl (fun w => ?hq) ?ha ?_ | refine' xAc (by decide) rfl rfl rfl (fun w => ?hq) ?ha ?_ | refine' xAo (by decide) rfl rfl rfl (fun w => ?hq) ?ha ?_ | refine' xBd (by decide) rfl rfl rfl rfl (fun w => ?hq) ?ha ?_ | refine' xBa (by decide) rfl rfl rfl rfl rfl rfl (fun w => ?hq) ?ha ?_ | refine' xBe (by decide) rfl rfl (fun w => ?hq) ?ha ?_ | refine' xAn (by decide) rfl rfl rfl (fun w => ?hq) ?ha ?_ | refine' xBc (by decide) rfl rfl rfl (fun w => ?hq) ?ha ?_); (case hq => go_simp; try rfl)) | (refine' xAg (by decide) rfl rfl rfl ?ha ?_) | (refine' xBk (by decide) rfl rfl rfl rfl ?ha ?_) | (refine' xBm (by decide) rfl ?ha ?_) | (refine' xCs rfl rfl rfl (fun w hw => ld w hw.drop1.drop1) ?ha ?_; (case ha => simp only [kP, kQ, kA, kB]; try rfl)) | (refine' hd_callR rfl rfl rfl (xBi Try.func26 (by kernel_rfl) (by kernel_rfl) _) (fun w hw => ct _ w (.tail _ (.tail _ hfb)) hw) ?ha ?_) | (refine' hd_callR rfl rfl rfl (xBi Try.func50 (by kernel_rfl) (by kernel_rfl) _) (fun w hw => cl _ w (.tail _ (.tail _ hfb)) hw) ?ha ?_)); try (case ha => simp only [kP, kQ, kA, kB]; try rfl))
      refine xBp (hK _ _ ?_)
      clear hK K
      refine xBw (fun Q hQ => ?_)
      try simp only [List.nil_append, List.cons_append]
      try simp only [kP, kQ, kA, kB]
      refine tl_y (yields_storeN (t := 24) (i := i) (n := m1) (v := r) (f := lonG q m P b i) (f' := G1) rfl rfl rfl rfl im1.out hs1.out xAw.head) (fun p hp => absurd hp List.not_mem_nil) rfl ?_
      refine xBx (fun w hR => hQ _ _ ?_)
      clear hQ Q
      go_wp2_with (first | (refine' xAb hR rfl rfl rfl ?_; clear hR; intro blk w hR) | (refine' xAa hR rfl rfl inferInstance ?_; clear hR; intro blk w hR) | (refine' aFq hR rfl rfl rfl inferInstance ?_) | (refine' aGq hR rfl rfl rfl inferInstance ?_) | (refine' aHq hR rfl rfl rfl inferInstance ?_) | (refine' aIq hR rfl rfl rfl inferInstance rfl ?_; clear hR; intro w hR) | (refine' aJq hR rfl rfl rfl inferInstance rfl rfl ?_; clear hR; intro w hR) | (refine' xCl rfl rfl rfl (ld _ hR.drop1.drop1) ?_) | (refine' wpList_storeN (i := i + 1) (n := m1) hR rfl rfl rfl rfl im2.out hs2.out xAw.head ?_; clear hR; intro w hR))
      exact hK.out (i + 1) _ _ hi1.out hmu.out (xBh rfl rfl rfl) hR
end
end Go.Proofs.Ytgfoeongjhkdmaa
