/- The contract of polys.Through. -/
import Derived.Test.YtaaahfjpnggkbaaGreatDoorPK2
set_option linter.unusedVariables false
set_option linter.unusedSimpArgs false
namespace Go.Proofs.YtaaahfjpnggkbaaGreatDoor
open Go.RowKit
attribute [local irreducible] Calls Instr.build Instr.buildSlice Instr.makeSlice
def lenN (i k : Nat) : Nat := 1 + cntN i k
noncomputable def paF (q n : Nat) (f V : Nat → Nat) (i : Nat) : Nat → Nat → Nat
  | 0 => fun _ => mulN (vF q n f i) (V i) q
  | k + 1 => if k = i then paF q n f V i k else lonF q (lenN i k) (paF q n f V i k) (f k)
noncomputable def outF (q n : Nat) (f V : Nat → Nat) : Nat → Nat → Nat
  | 0, _ => 0
  | i + 1, j => (outF q n f V i j + paF q n f V i n j) % q
noncomputable def thG (q n : Nat) (f V : Nat → Nat) (i t j : Nat) : Nat := if j < t then outF q n f V (i + 1) j else outF q n f V i j
theorem lonF_lt {q m b : Nat} {P : Nat → Nat} (h1 : 1 < q) (hP : ∀ j, j < m → P j < q) (hm : 0 < m) {j : Nat} (hj : j < m + 1) : lonF q m P b j < q := by
  unfold lonF
  split
  · exact subN_lt h1 _ _
  · exact hP (j - 1) (by omega)
theorem paF_lt {q n : Nat} {f V : Nat → Nat} (h1 : 1 < q) (i : Nat) : ∀ k j, j < lenN i k → paF q n f V i k j < q
  | 0, j, _ => mul_lt' h1 _ _
  | k + 1, j, hj => by
    unfold paF
    by_cases hk : k = i
    · rw [if_pos hk]
      refine paF_lt h1 i k j ?_
      have : lenN i (k + 1) = lenN i k := by unfold lenN; rw [hk, cnt_same]
      omega
    · rw [if_neg hk]
      refine lonF_lt h1 (fun j hj => paF_lt h1 i k j hj) (by unfold lenN; omega) ?_
      have : lenN i (k + 1) = lenN i k + 1 := by unfold lenN; rw [cnt_next hk]; omega
      omega
theorem outF_lt {q n : Nat} {f V : Nat → Nat} (h1 : 1 < q) : ∀ i j, outF q n f V i j < q
  | 0, _ => Nat.lt_of_succ_lt h1
  | i + 1, j => Nat.mod_lt _ (by omega)
section
variable {p q g h : Nat} {W : World} {a b : Option Addr} {n m cp cq : Nat} {f V : Nat → Nat}
set_option maxRecDepth 100000 in
set_option maxHeartbeats 4000000 in
theorem through_bad (hp : p < B) (hq : q < B) (hA : NAt W.heap.size W [] a n cp f) (hV : NAt W.heap.size W [] b m cq V) (hn : n ≤ 1000) (hm : m ≤ 1000) (hno : ¬ (ptsOK q n f ∧ m = n ∧ ∀ j, j < m → V j < q)) :
    Calls Tryz.prog 10 #[grp p q g h, .slice a n cp, .slice b m cq] W fun en w' => en = .returned (.tuple #[.slice none 0 0, .int .i64 1]) ∧ Below W.heap.size W w' := by
  classical
  have hR := Rep.init W
  have cp0 := fun (s : Bool) (hs : s = true ↔ ptsOK q n f) (L : List (Nat × Obj)) (w : World) (hw : Rep W.heap.size W L w) => points_any (p := p) (g := g) (h := h) hq (hA.any (L := L)) (by omega) s hs hw
  by_cases h1 : ptsOK q n f
  · have cp1 := cp0 true ⟨fun _ => h1, fun _ => rfl⟩
    by_cases h2 : m = n
    · have cm := fun (L : List (Nat × Obj)) (w : World) (hw : Rep W.heap.size W L w) => pmay_any (p := p) (g := g) (h := h) hq (hV.any (L := L)) (by omega) false ⟨fun hh => (nomatch hh), fun hh => absurd ⟨h1, h2, hh.2⟩ hno⟩ hw
      have e1 : (m : Int) = (n : Int) := by omega
      have e2 : ((m : Int) == (n : Int)) = true := by simp; omega
      have e3 : ((m : Int) != (n : Int)) = false := by simp; omega
      clear cp0 hno h1 hA hV
      subst h2
      go_enter Tryz.func10, Tryz.ntmps10
      go_wp2_with (first | go_skip | (refine' xAb hR rfl rfl rfl ?_; clear hR; intro blk w hR) | (refine' xAa hR rfl rfl inferInstance ?_; clear hR; intro blk w hR) | (refine' aNq hR rfl rfl rfl ?_) | (refine' aOq hR rfl rfl rfl ?_) | (refine' aPq hR rfl rfl rfl ?_) | (refine' aWq hR rfl rfl rfl rfl ?_; clear hR; intro w hR) | (refine' aXq hR rfl rfl rfl rfl rfl ?_; clear hR; intro w hR) | (refine' xAp hR rfl rfl rfl inferInstance ?hm ?hn ?_; (case hm => first | with_reducible assumption | repeat (first | exact .head _ | with_reducible assumption | apply mC)); (case hn => first | rfl | simp)) | (refine' xAo hR rfl rfl rfl inferInstance ?hm ?hv ?_; (case hm => first | with_reducible assumption | repeat (first | exact .head _ | with_reducible assumption | apply mC)); (case hv => first | rfl | with_reducible assumption)) | (refine' xAx hR rfl rfl rfl inferInstance ?hm ?hv ?hn ?_; (case hm => first | with_reducible assumption | repeat (first | exact .head _ | with_reducible assumption | apply mC)); (case hv => first | with_reducible assumption | (simp only [kC, kD, kE, kF]; try rfl)); (case hn => first | rfl | simp)) | (go_at_call 35; refine (cp1 _ _ hR).mono ?_; clear hR; rintro e w ⟨rfl, hR⟩) | (go_at_call 31; refine (cm _ _ hR).mono ?_; clear hR; rintro e w ⟨rfl, hR⟩))
      go_ret2
      exact ⟨rfl, hR.below⟩
    · have e1 : ¬ (m : Int) = (n : Int) := by omega
      have e2 : ((m : Int) == (n : Int)) = false := by simp; omega
      have e3 : ((m : Int) != (n : Int)) = true := by simp; omega
      clear cp0 hno h1 hA hV
      go_enter Tryz.func10, Tryz.ntmps10
      go_wp2_with (first | go_skip | (refine' xAb hR rfl rfl rfl ?_; clear hR; intro blk w hR) | (refine' xAa hR rfl rfl inferInstance ?_; clear hR; intro blk w hR) | (refine' aNq hR rfl rfl rfl ?_) | (refine' aOq hR rfl rfl rfl ?_) | (refine' aPq hR rfl rfl rfl ?_) | (refine' aWq hR rfl rfl rfl rfl ?_; clear hR; intro w hR) | (refine' aXq hR rfl rfl rfl rfl rfl ?_; clear hR; intro w hR) | (refine' xAp hR rfl rfl rfl inferInstance ?hm ?hn ?_; (case hm => first | with_reducible assumption | repeat (first | exact .head _ | with_reducible assumption | apply mC)); (case hn => first | rfl | simp)) | (refine' xAo hR rfl rfl rfl inferInstance ?hm ?hv ?_; (case hm => first | with_reducible assumption | repeat (first | exact .head _ | with_reducible assumption | apply mC)); (case hv => first | rfl | with_reducible assumption)) | (refine' xAx hR rfl rfl rfl inferInstance ?hm ?hv ?hn ?_; (case hm => first | with_reducible assumption | repeat (first | exact .head _ | with_reducible assumption | apply mC)); (case hv => first | with_reducible assumption | (simp only [kC, kD, kE, kF]; try rfl)); (case hn => first | rfl | simp)) | (go_at_call 35; refine (cp1 _ _ hR).mono ?_; clear hR; rintro e w ⟨rfl, hR⟩))
      go_ret2
      exact ⟨rfl, hR.below⟩
  · have cp1 := cp0 false ⟨fun hh => (nomatch hh), fun hh => absurd hh h1⟩
    clear cp0 hno h1 hA hV
    go_enter Tryz.func10, Tryz.ntmps10
    go_wp2_with (first | go_skip | (refine' xAb hR rfl rfl rfl ?_; clear hR; intro blk w hR) | (refine' xAa hR rfl rfl inferInstance ?_; clear hR; intro blk w hR) | (refine' aNq hR rfl rfl rfl ?_) | (refine' aOq hR rfl rfl rfl ?_) | (refine' aPq hR rfl rfl rfl ?_) | (refine' aWq hR rfl rfl rfl rfl ?_; clear hR; intro w hR) | (refine' aXq hR rfl rfl rfl rfl rfl ?_; clear hR; intro w hR) | (refine' xAp hR rfl rfl rfl inferInstance ?hm ?hn ?_; (case hm => first | with_reducible assumption | repeat (first | exact .head _ | with_reducible assumption | apply mC)); (case hn => first | rfl | simp)) | (refine' xAo hR rfl rfl rfl inferInstance ?hm ?hv ?_; (case hm => first | with_reducible assumption | repeat (first | exact .head _ | with_reducible assumption | apply mC)); (case hv => first | rfl | with_reducible assumption)) | (refine' xAx hR rfl rfl rfl inferInstance ?hm ?hv ?hn ?_; (case hm => first | with_reducible assumption | repeat (first | exact .head _ | with_reducible assumption | apply mC)); (case hv => first | with_reducible assumption | (simp only [kC, kD, kE, kF]; try rfl)); (case hn => first | rfl | simp)) | (go_at_call 35; refine (cp1 _ _ hR).mono ?_; clear hR; rintro e w ⟨rfl, hR⟩))
    go_ret2
    exact ⟨rfl, hR.below⟩
set_option maxRecDepth 100000 in
set_option maxHeartbeats 16000000 in
set_option maxRecDepth 100000 in
theorem through_go (hp : p < B) (hq : q < B) (hA : NAt W.heap.size W [] a n cp f) (hVA : NAt W.heap.size W [] b n cq V) (hn : n ≤ 1000) (hok : ptsOK q n f) (hV : ∀ j, j < n → V j < q) :
    Calls Tryz.prog 10 #[grp p q g h, .slice a n cp, .slice b n cq] W fun en w' => (wtE q n f n = 0 ∧ ∃ gb, en = .returned (.tuple #[.slice (some ⟨gb, 0, none⟩) n n, .int .i64 0]) ∧ ∃ cur : List Value, NOwn n cur n (outF q n f V n) ∧ Rep W.heap.size W [(gb, .cells cur.toArray 24)] w') ∨
      (wtE q n f n ≠ 0 ∧ en = .returned (.tuple #[.slice none 0 0, .int .i64 7]) ∧ Below W.heap.size W w') := by
  have hR := Rep.init W
  obtain ⟨hn0, hdist, h1, hf⟩ := hok
  have hnM : n ≤ 1000000 := by omega
  have cp1 := fun (L : List (Nat × Obj)) (w : World) (hw : Rep W.heap.size W L w) => points_any (p := p) (g := g) (h := h) hq (hA.any (L := L)) hnM true ⟨fun _ => ⟨hn0, hdist, h1, hf⟩, fun _ => rfl⟩ hw
  have cm := fun (L : List (Nat × Obj)) (w : World) (hw : Rep W.heap.size W L w) => pmay_any (p := p) (g := g) (h := h) hq (hVA.any (L := L)) hnM true ⟨fun _ => ⟨h1, hV⟩, fun _ => rfl⟩ hw
  have bf := fun w => build_pfl p q g h w
  clear hdist
  replace hA := Held.mk hA
  replace hVA := Held.mk hVA
  replace hf := Held.mk hf
  replace hV := Held.mk hV
  replace hn0 := Held.mk hn0
  go_enter Tryz.func10, Tryz.ntmps10
  go_wp2_with (first | go_skip | (refine' xAb hR rfl rfl rfl ?_; clear hR; intro blk w hR) | (refine' xAa hR rfl rfl inferInstance ?_; clear hR; intro blk w hR) | (refine' aNq hR rfl rfl rfl ?_) | (refine' aOq hR rfl rfl rfl ?_) | (refine' aPq hR rfl rfl rfl ?_) | (refine' aWq hR rfl rfl rfl rfl ?_; clear hR; intro w hR) | (refine' aXq hR rfl rfl rfl rfl rfl ?_; clear hR; intro w hR) | (refine' xAp hR rfl rfl rfl inferInstance ?hm ?hn ?_; (case hm => first | with_reducible assumption | repeat (first | exact .head _ | with_reducible assumption | apply mC)); (case hn => first | rfl | simp)) | (refine' xAo hR rfl rfl rfl inferInstance ?hm ?hv ?_; (case hm => first | with_reducible assumption | repeat (first | exact .head _ | with_reducible assumption | apply mC)); (case hv => first | rfl | with_reducible assumption)) | (refine' xAx hR rfl rfl rfl inferInstance ?hm ?hv ?hn ?_; (case hm => first | with_reducible assumption | repeat (first | exact .head _ | with_reducible assumption | apply mC)); (case hv => first | with_reducible assumption | (simp only [kC, kD, kE, kF]; try rfl)); (case hn => first | rfl | simp)) | (go_at_call 35; refine (cp1 _ _ hR).mono ?_; clear hR; rintro e w ⟨rfl, hR⟩) | (go_at_call 31; refine (cm _ _ hR).mono ?_; clear hR; rintro e w ⟨rfl, hR⟩))
  clear cp1 cm
  obtain ⟨b3, hb3⟩ : ∃ x, x = blk := ⟨_, rfl⟩
  subst hb3
  try simp only [Act.put, kA, kB, List.setIfInBounds_toArray]
  refine cut_code (fun l tm w' => ∃ fb gb, agree (false :: false :: false :: false :: false :: false :: false :: false :: false :: false :: false :: false :: false :: false :: false :: false :: false :: false :: false :: false :: false :: false :: false :: false :: false :: false :: false :: false :: false :: false :: false :: true :: true :: true :: true :: true :: true :: false :: false :: false :: false :: false :: false :: false :: false :: false :: false :: false :: false :: false :: false :: false :: false :: false :: false :: false :: false :: false :: false :: false :: false :: false :: false :: false :: false :: false :: false :: false :: false :: false :: false :: false :: false :: false :: false :: false :: false :: false :: false :: false :: false :: false :: false :: false :: false :: false :: false :: false :: false :: false :: false :: false :: false :: false :: false :: []) ((l.set 8 (.pointer (some ⟨fb, 0, none⟩))).set 9 (.slice (some ⟨gb, 0, none⟩) n n)) tm ∧ Rep W.heap.size W ((gb, .cells (xBu (fun _ => 0) n).toArray 24) :: (fb, .cells (pfl p q g h 0).toArray 79) :: (b3, .cells (gl p q g h).toArray 26) :: []) w') ?r1 ?r2
  case r1 =>
    intro Q' hQ'
    refine xCr hR 8 xBt rfl ?_
    clear hR
    refine fHeads [(b3, .cells (gl p q g h).toArray 26)] [1, 1, 2, 1, 1, 2, 2, 2] 4 rfl (by repeat (first | exact xBk | refine xBf (by repeat (first | exact .head _ | with_reducible assumption | apply mC)) ?_)) (by repeat (first | exact xBk | refine xBf (by repeat (first | exact .head _ | with_reducible assumption | apply mC)) ?_)) rfl (by decide +kernel) (fun K hK => ?_)
    repeat ((first | (refine' hd_build1P (by decide) rfl rfl rfl bf ?ha ?_) | (refine xBa ?_) | (refine' xAm (by decide) rfl (.inl rfl) rfl ?ha ?_) | (refine' xAm (by decide) rfl (.inr rfl) rfl ?ha ?_) | (refine' aQq rfl rfl rfl ?ha ?_) | (refine' aRq rfl rfl rfl ?ha ?_) | (refine' aSq rfl rfl rfl ?ha ?_) | (refine' aTq rfl rfl rfl ?ha ?_) | (refine' aUq rfl rfl rfl ?ha ?_) | ((first | refine' xAf (by decide) rfl rfl rfl rfl (fun w => ?hq) ?ha ?_ | refine' xAv (by decide) rfl rfl rfl rfl (fun w => ?hq) ?ha ?_ | refine' xAj (by decide) rfl rfl rfl (fun w => ?hq) ?ha ?_ | refine' xAe (by decide) rfl rfl rfl (fun w => ?hq) ?ha ?_ | refine' xAk (by decide) rfl rfl rfl (fun w => ?hq) ?ha ?_ | refine' xAu (by decide) rfl rfl rfl rfl (fun w => ?hq) ?ha ?_ | refine' xAt (by decide) rfl rfl rfl rfl rfl rfl (fun w => ?hq) ?ha ?_ | refine' xAs (by decide) rfl rfl (fun w => ?hq) ?ha ?_ | refine' xAl (by decide) rfl rfl rfl (fun w => ?hq) ?ha ?_ | refine' xAw (by decide) rfl rfl rfl (fun w => ?hq) ?ha ?_); (case hq => go_simp; try rfl)) | (refine' xAh (by decide) rfl rfl rfl ?ha ?_) | (refine' xBb (by decide) rfl rfl rfl rfl ?ha ?_) | (refine' xAz (by decide) rfl ?ha ?_) | (refine' hd_len (by decide) rfl rfl rfl (fun w => ?hq) ?ha ?_; (case hq => go_simp; try rfl))); try (case ha => simp only [kP, kQ, kA, kB]; try rfl))
    refine xBg (hK _ _ ?_)
    clear hK K
    refine f_at [2, 5] (by decide +kernel) rfl ?_
    refine f_is 2 ?_
    refine f_new rfl rfl (isNew_box rfl rfl rfl) (by repeat (first | exact xBk | refine xBf (by repeat (first | exact .head _ | with_reducible assumption | apply mC)) ?_)) (fun fb => ?goA) ?goB
    case' goA =>
      simp only [Act.put, kA, kB, List.setIfInBounds_toArray]
      refine fHeads [(b3, .cells (gl p q g h).toArray 26)] [2, 2, 2, 2, 2, 2, 1, 2] 2 rfl (by repeat (first | exact xBk | refine xBf (by repeat (first | exact .head _ | with_reducible assumption | apply mC)) ?_)) (by repeat (first | exact xBk | refine xBf (by repeat (first | exact .head _ | with_reducible assumption | apply mC)) ?_)) rfl (by decide +kernel) (fun K hK => ?_)
      repeat ((first | (refine xBa ?_) | (refine' xAm (by decide) rfl (.inl rfl) rfl ?ha ?_) | (refine' xAm (by decide) rfl (.inr rfl) rfl ?ha ?_) | (refine' aQq rfl rfl rfl ?ha ?_) | (refine' aRq rfl rfl rfl ?ha ?_) | (refine' aSq rfl rfl rfl ?ha ?_) | (refine' aTq rfl rfl rfl ?ha ?_) | (refine' aUq rfl rfl rfl ?ha ?_) | ((first | refine' xAf (by decide) rfl rfl rfl rfl (fun w => ?hq) ?ha ?_ | refine' xAv (by decide) rfl rfl rfl rfl (fun w => ?hq) ?ha ?_ | refine' xAj (by decide) rfl rfl rfl (fun w => ?hq) ?ha ?_ | refine' xAe (by decide) rfl rfl rfl (fun w => ?hq) ?ha ?_ | refine' xAk (by decide) rfl rfl rfl (fun w => ?hq) ?ha ?_ | refine' xAu (by decide) rfl rfl rfl rfl (fun w => ?hq) ?ha ?_ | refine' xAt (by decide) rfl rfl rfl rfl rfl rfl (fun w => ?hq) ?ha ?_ | refine' xAs (by decide) rfl rfl (fun w => ?hq) ?ha ?_ | refine' xAl (by decide) rfl rfl rfl (fun w => ?hq) ?ha ?_ | refine' xAw (by decide) rfl rfl rfl (fun w => ?hq) ?ha ?_); (case hq => go_simp; try rfl)) | (refine' xAh (by decide) rfl rfl rfl ?ha ?_) | (refine' xBb (by decide) rfl rfl rfl rfl ?ha ?_) | (refine' xAz (by decide) rfl ?ha ?_) | fail); try (case ha => simp only [kP, kQ, kA, kB]; try rfl))
      refine xBg (hK _ _ ?_)
      clear hK K
      refine f_at [5] (by decide +kernel) rfl ?_
      refine f_is 5 ?_
      refine f_new rfl rfl (isNew_numsZ rfl rfl rfl rfl hnM) (by repeat (first | exact xBk | refine xBf (by repeat (first | exact .head _ | with_reducible assumption | apply mC)) ?_)) (fun gb => ?_) f_nil
      simp only [Act.put, kA, kB, List.setIfInBounds_toArray]
      refine fHeads [(b3, .cells (gl p q g h).toArray 26)] [2, 2, 2, 2, 2, 2, 2, 1] 0 rfl (by repeat (first | exact xBk | refine xBf (by repeat (first | exact .head _ | with_reducible assumption | apply mC)) ?_)) (by repeat (first | exact xBk | refine xBf (by repeat (first | exact .head _ | with_reducible assumption | apply mC)) ?_)) rfl (by decide +kernel) (fun K hK => ?_)
      repeat ((first | (refine xBa ?_) | (refine' xAm (by decide) rfl (.inl rfl) rfl ?ha ?_) | (refine' xAm (by decide) rfl (.inr rfl) rfl ?ha ?_) | (refine' aQq rfl rfl rfl ?ha ?_) | (refine' aRq rfl rfl rfl ?ha ?_) | (refine' aSq rfl rfl rfl ?ha ?_) | (refine' aTq rfl rfl rfl ?ha ?_) | (refine' aUq rfl rfl rfl ?ha ?_) | ((first | refine' xAf (by decide) rfl rfl rfl rfl (fun w => ?hq) ?ha ?_ | refine' xAv (by decide) rfl rfl rfl rfl (fun w => ?hq) ?ha ?_ | refine' xAj (by decide) rfl rfl rfl (fun w => ?hq) ?ha ?_ | refine' xAe (by decide) rfl rfl rfl (fun w => ?hq) ?ha ?_ | refine' xAk (by decide) rfl rfl rfl (fun w => ?hq) ?ha ?_ | refine' xAu (by decide) rfl rfl rfl rfl (fun w => ?hq) ?ha ?_ | refine' xAt (by decide) rfl rfl rfl rfl rfl rfl (fun w => ?hq) ?ha ?_ | refine' xAs (by decide) rfl rfl (fun w => ?hq) ?ha ?_ | refine' xAl (by decide) rfl rfl rfl (fun w => ?hq) ?ha ?_ | refine' xAw (by decide) rfl rfl rfl (fun w => ?hq) ?ha ?_); (case hq => go_simp; try rfl)) | (refine' xAh (by decide) rfl rfl rfl ?ha ?_) | (refine' xBb (by decide) rfl rfl rfl rfl ?ha ?_) | (refine' xAz (by decide) rfl ?ha ?_) | fail); try (case ha => simp only [kP, kQ, kA, kB]; try rfl))
      refine xBg (hK _ _ ?_)
      clear hK K
    case' goB =>
      refine f_is 5 ?_
      refine f_new rfl rfl (isNew_numsZ rfl rfl rfl rfl hnM) (by repeat (first | exact xBk | refine xBf (by repeat (first | exact .head _ | with_reducible assumption | apply mC)) ?_)) (fun gb => ?_) f_nil
      simp only [Act.put, kA, kB, List.setIfInBounds_toArray]
      refine f_at [2] (by decide +kernel) rfl ?_
      refine f_is 2 ?_
      refine f_new rfl rfl (isNew_box rfl rfl rfl) (by repeat (first | exact xBk | refine xBf (by repeat (first | exact .head _ | with_reducible assumption | apply mC)) ?_)) (fun fb => ?_) f_nil
      simp only [Act.put, kA, kB, List.setIfInBounds_toArray]
      refine fHeads [(b3, .cells (gl p q g h).toArray 26)] [2, 2, 2, 2, 2, 2, 1, 1] 0 rfl (by repeat (first | exact xBk | refine xBf (by repeat (first | exact .head _ | with_reducible assumption | apply mC)) ?_)) (by repeat (first | exact xBk | refine xBf (by repeat (first | exact .head _ | with_reducible assumption | apply mC)) ?_)) rfl (by decide +kernel) (fun K hK => ?_)
      repeat ((first | (refine xBa ?_) | (refine' xAm (by decide) rfl (.inl rfl) rfl ?ha ?_) | (refine' xAm (by decide) rfl (.inr rfl) rfl ?ha ?_) | (refine' aQq rfl rfl rfl ?ha ?_) | (refine' aRq rfl rfl rfl ?ha ?_) | (refine' aSq rfl rfl rfl ?ha ?_) | (refine' aTq rfl rfl rfl ?ha ?_) | (refine' aUq rfl rfl rfl ?ha ?_) | ((first | refine' xAf (by decide) rfl rfl rfl rfl (fun w => ?hq) ?ha ?_ | refine' xAv (by decide) rfl rfl rfl rfl (fun w => ?hq) ?ha ?_ | refine' xAj (by decide) rfl rfl rfl (fun w => ?hq) ?ha ?_ | refine' xAe (by decide) rfl rfl rfl (fun w => ?hq) ?ha ?_ | refine' xAk (by decide) rfl rfl rfl (fun w => ?hq) ?ha ?_ | refine' xAu (by decide) rfl rfl rfl rfl (fun w => ?hq) ?ha ?_ | refine' xAt (by decide) rfl rfl rfl rfl rfl rfl (fun w => ?hq) ?ha ?_ | refine' xAs (by decide) rfl rfl (fun w => ?hq) ?ha ?_ | refine' xAl (by decide) rfl rfl rfl (fun w => ?hq) ?ha ?_ | refine' xAw (by decide) rfl rfl rfl (fun w => ?hq) ?ha ?_); (case hq => go_simp; try rfl)) | (refine' xAh (by decide) rfl rfl rfl ?ha ?_) | (refine' xBb (by decide) rfl rfl rfl rfl ?ha ?_) | (refine' xAz (by decide) rfl ?ha ?_) | fail); try (case ha => simp only [kP, kQ, kA, kB]; try rfl))
      refine xBg (hK _ _ ?_)
      clear hK K
    all_goals
      refine f_end (by decide +kernel) (fun w hR => ?_)
      simp only [Exit.then]
      refine hQ'.out _ _ ⟨fb, gb, xAr rfl rfl rfl, ?_⟩
      first | exact hR | exact hR.permT (List.Perm.swap _ _ _)
  case r2 =>
    clear hR
    rename_i K5 k5
    rintro tm w ⟨fb, gb, ht, hR⟩
    repeat (first | (obtain ⟨x, tm', e, ht'⟩ := xAg ht; clear ht; subst e; have ht := ht'; clear ht') | (obtain ⟨tm', e, ht'⟩ := xAd ht; clear ht; subst e; have ht := ht'; clear ht'))
    obtain rfl := xAn ht
    clear ht
    simp only [Exit.then]
    refine k5 _ _ ?_
    go_wp2_with (first | (refine' xAb hR rfl rfl rfl ?_; clear hR; intro blk w hR) | (refine' xAa hR rfl rfl inferInstance ?_; clear hR; intro blk w hR) | (refine' aNq hR rfl rfl rfl ?_) | (refine' aOq hR rfl rfl rfl ?_) | (refine' aPq hR rfl rfl rfl ?_) | (refine' aWq hR rfl rfl rfl rfl ?_; clear hR; intro w hR) | (refine' aXq hR rfl rfl rfl rfl rfl ?_; clear hR; intro w hR) | fail)
    have e0 : xBu (fun _ => 0) n = xBu (outF q n f V 0) n := xBq (fun j hj => rfl)
    rw [e0] at hR
    clear e0
    try simp only [Act.put, kA, kB, List.setIfInBounds_toArray]
    refine' xBm (false :: false :: false :: false :: false :: false :: false :: false :: false :: false :: true :: true :: true :: true :: false :: false :: false :: false :: false :: false :: false :: false :: false :: false :: false :: false :: false :: false :: false :: false :: false :: false :: false :: false :: false :: false :: false :: false :: false :: false :: true :: true :: true :: true :: true :: true :: true :: true :: true :: true :: true :: true :: true :: true :: true :: true :: true :: true :: true :: true :: true :: true :: true :: true :: true :: true :: true :: true :: true :: true :: true :: true :: true :: true :: true :: true :: true :: true :: true :: true :: true :: true :: true :: true :: true :: true :: true :: true :: true :: false :: false :: false :: false :: false :: false :: []) (fun (i : Nat) l => l.set 39 (.int .i64 (i : Int))) (fun i => (gb, .cells (xBu (outF q n f V i) n).toArray 24) :: (fb, .cells (pfl p q g h (wtE q n f i)).toArray 79) :: (b3, .cells (gl p q g h).toArray 26) :: []) (fun i => n - i) (fun i => i ≤ n) 0 ?h0 ?hO ?hR ?hs
    case h0 => exact xAr rfl rfl rfl
    case hO => exact Nat.zero_le _
    case hR => exact hR
    case hs =>
      clear hR
      intro i tm w hi ht hR K hK
      have g0 : 0 ≤ (i : Int) := by omega
      by_cases hik : i = n
      · subst hik
        have t1 : ¬ (i : Int) < (i : Int) := by omega
        have hfin : NOwn i (xBu (outF q i f V i) i) i (outF q i f V i) := rowsN_own hnM
        obtain ⟨E, hE⟩ : ∃ E, wtE q i f i = E := ⟨_, rfl⟩
        replace hR := (show Rep _ _ ((gb, _) :: (fb, .cells (pfl p q g h (wtE q i f i)).toArray 79) :: _) _ from hR)
        rw [hE] at hR
        have te := pfl_e p q g h E
        replace hfin := Held.mk hfin
        replace hE := Held.mk hE
        generalize xBu (outF q i f V i) i = rows at *
        clear hK hi hA hVA hf hV hn0
        by_cases hE0 : E = 0
        · subst hE0
          repeat (first | (obtain ⟨x, tm', e, ht'⟩ := xAg ht; clear ht; subst e; have ht := ht'; clear ht') | (obtain ⟨tm', e, ht'⟩ := xAd ht; clear ht; subst e; have ht := ht'; clear ht'))
          obtain rfl := xAn ht
          clear ht
          go_wp2_with (first | (refine' xAb hR rfl rfl rfl ?_; clear hR; intro blk w hR) | (refine' xAa hR rfl rfl inferInstance ?_; clear hR; intro blk w hR) | (refine' aNq hR rfl rfl rfl ?_) | (refine' aOq hR rfl rfl rfl ?_) | (refine' aPq hR rfl rfl rfl ?_) | (refine' aWq hR rfl rfl rfl rfl ?_; clear hR; intro w hR) | (refine' aXq hR rfl rfl rfl rfl rfl ?_; clear hR; intro w hR) | fail)
          go_ret2
          exact .inl ⟨hE.out, gb, rfl, rows, hfin.out, hR.weaken (.cons_cons _ (List.nil_sublist _))⟩
        · have c1 : (E == 0) = false := by simp; exact hE0
          have c2 : (E != 0) = true := by simp; exact hE0
          have hE1 : wtE q i f i ≠ 0 := by rw [hE.out]; exact hE0
          replace hE1 := Held.mk hE1
          repeat (first | (obtain ⟨x, tm', e, ht'⟩ := xAg ht; clear ht; subst e; have ht := ht'; clear ht') | (obtain ⟨tm', e, ht'⟩ := xAd ht; clear ht; subst e; have ht := ht'; clear ht'))
          obtain rfl := xAn ht
          clear ht
          go_wp2_with (first | (refine' xAb hR rfl rfl rfl ?_; clear hR; intro blk w hR) | (refine' xAa hR rfl rfl inferInstance ?_; clear hR; intro blk w hR) | (refine' aNq hR rfl rfl rfl ?_) | (refine' aOq hR rfl rfl rfl ?_) | (refine' aPq hR rfl rfl rfl ?_) | (refine' aWq hR rfl rfl rfl rfl ?_; clear hR; intro w hR) | (refine' aXq hR rfl rfl rfl rfl rfl ?_; clear hR; intro w hR) | fail)
          go_ret2
          exact .inr ⟨hE1.out, rfl, hR.below⟩
      · have hin : i < n := by omega
        have g1 : (i : Int) < (n : Int) := by omega
        have ei : IntKind.i64.wrap ((i : Int) + 1) = ((i + 1 : Nat) : Int) := by rw [IntKind.wrap_i64]; omega
        have hi1 : i + 1 ≤ n := by omega
        have hmu : n - (i + 1) < n - i := by omega
        replace hi1 := Held.mk hi1
        replace hmu := Held.mk hmu
        obtain ⟨v, hv⟩ : ∃ v, vF q n f i = v := ⟨_, rfl⟩
        have lv : v < q := by rw [← hv]; exact vF_lt h1 i
        obtain ⟨E, hE⟩ : ∃ E, wtE q n f i = E := ⟨_, rfl⟩
        obtain ⟨E', hE'⟩ : ∃ E, wtE q n f (i + 1) = E := ⟨_, rfl⟩
        have hEE : keepE E (invE (uF q n f i) q) = E' := by rw [← hE', wtE, hE]
        have cw := fun (M N : List (Nat × Obj)) (w : World) (hst : xCa M fb (.cells (pfl p q g h E).toArray 79) (.cells (pfl p q g h E').toArray 79) N) (hw : Rep W.heap.size W M w) => weight_any (r := v) h1 hq hf.out hA.out hnM hin rfl (show (if okE (uF q n f i) q then invM (uF q n f i) q else 0) = v from hv) rfl hEE hst hw
        obtain ⟨bc, ofc, rfl, hy⟩ := hVA.out.at' (by omega)
        obtain ⟨y, hye⟩ : ∃ y, V i = y := ⟨_, rfl⟩
        have ly : y < q := by rw [← hye]; exact hV.out i hin
        have ldv := fun (L : List (Nat × Obj)) (w : World) (hw : Rep W.heap.size W L w) => xBr (hy w (hw.weaken (List.nil_sublist _)) i hin)
        rw [hye] at ldv
        obtain ⟨v0, hv0⟩ : ∃ x, mulN v y q = x := ⟨_, rfl⟩
        have ct := fun (L' : List (Nat × Obj)) (w : World) (hmm : (fb, Obj.cells (pfl p q g h E').toArray 79) ∈ L') (hw : Rep W.heap.size W L' w) => ftimes_ok h1 hq lv ly hv0 hmm hw
        have hp0 : nl v0 = xBu (paF q n f V i 0) 1 := by
          rw [← hv0, ← hv, ← hye]
          rfl
        replace hR := (show Rep _ _ ((gb, _) :: (fb, .cells (pfl p q g h (wtE q n f i)).toArray 79) :: _) _ from hR)
        rw [hE] at hR
        replace hE' := Held.mk hE'
        replace hp0 := Held.mk hp0
        clear hi hik hv hE hEE hye hv0 hy lv ly
        repeat (first | (obtain ⟨x, tm', e, ht'⟩ := xAg ht; clear ht; subst e; have ht := ht'; clear ht') | (obtain ⟨tm', e, ht'⟩ := xAd ht; clear ht; subst e; have ht := ht'; clear ht'))
        obtain rfl := xAn ht
        clear ht
        go_wp2_with (first | (refine' xAb hR rfl rfl rfl ?_; clear hR; intro blk w hR) | (refine' xAa hR rfl rfl inferInstance ?_; clear hR; intro blk w hR) | (refine' aNq hR rfl rfl rfl ?_) | (refine' aOq hR rfl rfl rfl ?_) | (refine' aPq hR rfl rfl rfl ?_) | (refine' aWq hR rfl rfl rfl rfl ?_; clear hR; intro w hR) | (refine' aXq hR rfl rfl rfl rfl rfl ?_; clear hR; intro w hR) | fail)
        rename_i K6 k6
        try simp only [Act.put, kA, kB, List.setIfInBounds_toArray]
        refine xCr hR 12 xBt rfl ?_
        clear hR
        refine fHeads [] [1, 1, 1, 1, 2, 1, 1, 1, 1, 2, 2, 2] 4 rfl (by repeat (first | exact xBk | refine xBf (by repeat (first | exact .head _ | with_reducible assumption | apply mC)) ?_)) (by repeat (first | exact xBk | refine xBf (by repeat (first | exact .head _ | with_reducible assumption | apply mC)) ?_)) rfl (by decide +kernel) (fun K hK => ?_)
        repeat ((first | (refine' hd_loadKP rfl rfl rfl ldv ?ha ?_) | (refine xBa ?_) | (refine' xAm (by decide) rfl (.inl rfl) rfl ?ha ?_) | (refine' xAm (by decide) rfl (.inr rfl) rfl ?ha ?_) | (refine' aQq rfl rfl rfl ?ha ?_) | (refine' aRq rfl rfl rfl ?ha ?_) | (refine' aSq rfl rfl rfl ?ha ?_) | (refine' aTq rfl rfl rfl ?ha ?_) | (refine' aUq rfl rfl rfl ?ha ?_) | ((first | refine' xAf (by decide) rfl rfl rfl rfl (fun w => ?hq) ?ha ?_ | refine' xAv (by decide) rfl rfl rfl rfl (fun w => ?hq) ?ha ?_ | refine' xAj (by decide) rfl rfl rfl (fun w => ?hq) ?ha ?_ | refine' xAe (by decide) rfl rfl rfl (fun w => ?hq) ?ha ?_ | refine' xAk (by decide) rfl rfl rfl (fun w => ?hq) ?ha ?_ | refine' xAu (by decide) rfl rfl rfl rfl (fun w => ?hq) ?ha ?_ | refine' xAt (by decide) rfl rfl rfl rfl rfl rfl (fun w => ?hq) ?ha ?_ | refine' xAs (by decide) rfl rfl (fun w => ?hq) ?ha ?_ | refine' xAl (by decide) rfl rfl rfl (fun w => ?hq) ?ha ?_ | refine' xAw (by decide) rfl rfl rfl (fun w => ?hq) ?ha ?_); (case hq => go_simp; try rfl)) | (refine' xAh (by decide) rfl rfl rfl ?ha ?_) | (refine' xBb (by decide) rfl rfl rfl rfl ?ha ?_) | (refine' xAz (by decide) rfl ?ha ?_)); try (case ha => simp only [kP, kQ, kA, kB]; try rfl))
        refine xBg (hK _ _ ?_)
        clear hK K
        refine f_at [4] (by decide +kernel) rfl ?_
        refine f_is 4 ?_
        refine f_y rfl rfl (xCt rfl rfl rfl (xBc Tryz.func37 (by kernel_rfl) (by kernel_rfl) _) (fun w hw => cw _ _ w (.tail .head) hw)) (by repeat (first | exact xBk | refine xBf (by repeat (first | exact .head _ | with_reducible assumption | apply mC)) ?_)) ?_ f_nil
        simp only [Act.put, kA, kB, List.setIfInBounds_toArray]
        refine f_at [9] (by decide +kernel) rfl ?_
        refine f_is 9 ?_
        refine f_y rfl rfl (xCt rfl rfl rfl (xBc Tryz.func34 (by kernel_rfl) (by kernel_rfl) _) (fun w hw => ct _ w (.tail _ (.head _)) hw)) (by repeat (first | exact xBk | refine xBf (by repeat (first | exact .head _ | with_reducible assumption | apply mC)) ?_)) ?_ f_nil
        simp only [Act.put, kA, kB, List.setIfInBounds_toArray]
        refine f_at [10] (by decide +kernel) rfl ?_
        refine f_is 10 ?_
        refine f_new rfl rfl (isNew_nums1 rfl rfl rfl) (by repeat (first | exact xBk | refine xBf (by repeat (first | exact .head _ | with_reducible assumption | apply mC)) ?_)) (fun pb0 => ?_) f_nil
        simp only [Act.put, kA, kB, List.setIfInBounds_toArray]
        refine f_at [11] (by decide +kernel) rfl ?_
        refine f_is 11 ?_
        refine f_y rfl rfl (yields_assign rfl (.inl rfl) rfl) (by repeat (first | exact xBk | refine xBf (by repeat (first | exact .head _ | with_reducible assumption | apply mC)) ?_)) ?_ f_nil
        simp only [Act.put, kA, kB, List.setIfInBounds_toArray]
        refine f_end (by decide +kernel) (fun w hR => ?_)
        simp only [Exit.then, Exit.inBlock]
        refine k6 _ _ ?_
        clear cw ct ldv
        rw [hp0.out] at hR
        go_wp2_with (first | (refine' xAb hR rfl rfl rfl ?_; clear hR; intro blk w hR) | (refine' xAa hR rfl rfl inferInstance ?_; clear hR; intro blk w hR) | (refine' aNq hR rfl rfl rfl ?_) | (refine' aOq hR rfl rfl rfl ?_) | (refine' aPq hR rfl rfl rfl ?_) | (refine' aWq hR rfl rfl rfl rfl ?_; clear hR; intro w hR) | (refine' aXq hR rfl rfl rfl rfl rfl ?_; clear hR; intro w hR) | fail)
        try simp only [Act.put, kA, kB, List.setIfInBounds_toArray]
        refine' xBm (false :: false :: false :: false :: false :: false :: false :: false :: false :: false :: false :: false :: true :: false :: false :: false :: false :: false :: false :: false :: false :: false :: false :: false :: false :: false :: false :: false :: false :: false :: false :: false :: false :: false :: false :: false :: false :: false :: false :: false :: false :: false :: false :: false :: false :: false :: false :: false :: false :: false :: false :: false :: false :: false :: false :: false :: true :: true :: true :: true :: true :: true :: true :: true :: true :: true :: true :: true :: true :: false :: false :: false :: false :: false :: false :: false :: false :: false :: false :: false :: false :: false :: false :: false :: false :: false :: false :: false :: false :: false :: false :: false :: false :: false :: false :: []) (fun (x : Nat × Nat) l => (l.set 55 (.int .i64 (x.1 : Int))).set 11 (.slice (some ⟨x.2, 0, none⟩) (lenN i x.1) (lenN i x.1))) (fun x => (x.2, .cells (xBu (paF q n f V i x.1) (lenN i x.1)).toArray 24) :: (gb, .cells (xBu (outF q n f V i) n).toArray 24) :: (fb, .cells (pfl p q g h E').toArray 79) :: (b3, .cells (gl p q g h).toArray 26) :: []) (fun x => n - x.1) (fun x => x.1 ≤ n) (0, pb0) ?u0 ?uO ?uR ?us
        case u0 => exact xAr rfl rfl rfl
        case uO => exact Nat.zero_le _
        case uR => exact hR
        case us =>
          clear hR
          intro x2 tm w hk ht hR K2 hK2
          obtain ⟨k, pb⟩ := x2
          simp only at hk ht hR
          have j0 : 0 ≤ (k : Int) := by omega
          by_cases hkn : k = n
          · have u1 : ¬ (k : Int) < (n : Int) := by omega
            have eln : lenN i n = n := by have := hn0.out; unfold lenN cntN; rw [if_neg (by omega)]; omega
            rw [hkn, eln] at ht hR
            have u2 : ¬ (n : Int) < (n : Int) := by omega
            clear hK2 hk hkn u1 j0
            repeat (first | (obtain ⟨x, tm', e, ht'⟩ := xAg ht; clear ht; subst e; have ht := ht'; clear ht') | (obtain ⟨tm', e, ht'⟩ := xAd ht; clear ht; subst e; have ht := ht'; clear ht'))
            obtain rfl := xAn ht
            clear ht
            go_wp2_with (first | (refine' xAb hR rfl rfl rfl ?_; clear hR; intro blk w hR) | (refine' xAa hR rfl rfl inferInstance ?_; clear hR; intro blk w hR) | (refine' aNq hR rfl rfl rfl ?_) | (refine' aOq hR rfl rfl rfl ?_) | (refine' aPq hR rfl rfl rfl ?_) | (refine' aWq hR rfl rfl rfl rfl ?_; clear hR; intro w hR) | (refine' aXq hR rfl rfl rfl rfl rfl ?_; clear hR; intro w hR) | fail)
            have e1 : xBu (outF q n f V i) n = xBu (thG q n f V i 0) n := xBq fun j hj => by unfold thG; rw [if_neg (by omega)]
            rw [e1] at hR
            clear e1
            try simp only [Act.put, kA, kB, List.setIfInBounds_toArray]
            refine' xBm (false :: false :: false :: false :: false :: false :: false :: false :: false :: false :: false :: false :: false :: true :: false :: false :: false :: false :: false :: false :: false :: false :: false :: false :: false :: false :: false :: false :: false :: false :: false :: false :: false :: false :: false :: false :: false :: false :: false :: false :: false :: false :: false :: false :: false :: false :: false :: false :: false :: false :: false :: false :: false :: false :: false :: false :: false :: false :: false :: false :: false :: false :: false :: false :: false :: false :: false :: false :: false :: false :: false :: false :: true :: true :: true :: true :: true :: true :: true :: true :: true :: true :: true :: true :: true :: true :: true :: true :: false :: false :: false :: false :: false :: false :: false :: []) (fun (t : Nat) l => l.set 71 (.int .i64 (t : Int))) (fun t => (pb, .cells (xBu (paF q n f V i n) n).toArray 24) :: (gb, .cells (xBu (thG q n f V i t) n).toArray 24) :: (fb, .cells (pfl p q g h E').toArray 79) :: (b3, .cells (gl p q g h).toArray 26) :: []) (fun t => n - t) (fun t => t ≤ n) 0 ?v0 ?vO ?vR ?vs
            case v0 => exact xAr rfl rfl rfl
            case vO => exact Nat.zero_le _
            case vR => exact hR
            case vs =>
              clear hR
              intro t tm w htn ht hR K3 hK3
              have j0 : 0 ≤ (t : Int) := by omega
              by_cases htt : t = n
              · have u1 : ¬ (t : Int) < (n : Int) := by omega
                rw [htt] at ht hR
                have e1 : xBu (thG q n f V i n) n = xBu (outF q n f V (i + 1)) n := xBq fun j hj => by unfold thG; rw [if_pos hj]
                rw [e1] at hR
                clear hK3 htn htt u1 j0 e1
                repeat (first | (obtain ⟨x, tm', e, ht'⟩ := xAg ht; clear ht; subst e; have ht := ht'; clear ht') | (obtain ⟨tm', e, ht'⟩ := xAd ht; clear ht; subst e; have ht := ht'; clear ht'))
                obtain rfl := xAn ht
                clear ht
                go_wp2_with (first | (refine' xAb hR rfl rfl rfl ?_; clear hR; intro blk w hR) | (refine' xAa hR rfl rfl inferInstance ?_; clear hR; intro blk w hR) | (refine' aNq hR rfl rfl rfl ?_) | (refine' aOq hR rfl rfl rfl ?_) | (refine' aPq hR rfl rfl rfl ?_) | (refine' aWq hR rfl rfl rfl rfl ?_; clear hR; intro w hR) | (refine' aXq hR rfl rfl rfl rfl rfl ?_; clear hR; intro w hR) | fail)
                refine hK.out (i + 1) _ _ hi1.out hmu.out (xAr rfl rfl rfl) ?_
                rw [hE'.out]
                exact hR.drop1
              · have htl : t < n := by omega
                have u1 : (t : Int) < (n : Int) := by omega
                have et : IntKind.i64.wrap ((t : Int) + 1) = ((t + 1 : Nat) : Int) := by rw [IntKind.wrap_i64]; omega
                have ht1 : t + 1 ≤ n := by omega
                have hmt : n - (t + 1) < n - t := by omega
                obtain ⟨o, ho⟩ : ∃ o, outF q n f V i t = o := ⟨_, rfl⟩
                have lo : o < q := by rw [← ho]; exact outF_lt h1 i t
                obtain ⟨y, hy⟩ : ∃ y, paF q n f V i n t = y := ⟨_, rfl⟩
                have ly : y < q := by rw [← hy]; exact paF_lt h1 i n t (by rw [eln]; exact htl)
                obtain ⟨r, hr⟩ : ∃ r, (o + y) % q = r := ⟨_, rfl⟩
                have row1 := rowsN_row (f := thG q n f V i t) htl
                have row2 := rowsN_row (f := paF q n f V i n) htl
                have eo : thG q n f V i t t = o := by unfold thG; rw [if_neg (Nat.lt_irrefl t), ho]
                rw [eo] at row1
                rw [hy] at row2
                have cl := fun (L' : List (Nat × Obj)) (w : World) (hmm : (fb, Obj.cells (pfl p q g h E').toArray 79) ∈ L') (hw : Rep W.heap.size W L' w) => fplus_ok h1 hq lo ly hr hmm hw
                have hset : ∀ j, j < n → thG q n f V i (t + 1) j = if j = t then r else thG q n f V i t j := fun j hj => by
                  unfold thG
                  by_cases hjt : j = t
                  · rw [hjt, if_pos (by omega), if_pos rfl, outF, ho, hy, hr]
                  · rw [if_neg hjt]
                    by_cases h2 : j < t
                    · rw [if_pos (by omega), if_pos h2]
                    · rw [if_neg (by omega), if_neg h2]
                replace ht1 := Held.mk ht1
                replace hmt := Held.mk hmt
                replace hset := Held.mk hset
                replace htl := Held.mk htl
                clear htn htt ho hy hr lo ly eo
                repeat (first | (obtain ⟨x, tm', e, ht'⟩ := xAg ht; clear ht; subst e; have ht := ht'; clear ht') | (obtain ⟨tm', e, ht'⟩ := xAd ht; clear ht; subst e; have ht := ht'; clear ht'))
                obtain rfl := xAn ht
                clear ht
                go_wp2_with (first | (refine' xAb hR rfl rfl rfl ?_; clear hR; intro blk w hR) | (refine' xAa hR rfl rfl inferInstance ?_; clear hR; intro blk w hR) | (refine' aNq hR rfl rfl rfl ?_) | (refine' aOq hR rfl rfl rfl ?_) | (refine' aPq hR rfl rfl rfl ?_) | (refine' aWq hR rfl rfl rfl rfl ?_; clear hR; intro w hR) | (refine' aXq hR rfl rfl rfl rfl rfl ?_; clear hR; intro w hR) | fail)
                refine xAi hR [0, 0, 0, 0, 0, 0, 0, 0, 0, 0, 0, 0, 0, 2] [] xBt (by kernel_rfl) rfl rfl (fun K hK => ?_)
                clear hR
                repeat ((first | (refine xBa ?_) | (refine' xAm (by decide) rfl (.inl rfl) rfl ?ha ?_) | (refine' xAm (by decide) rfl (.inr rfl) rfl ?ha ?_) | (refine' aQq rfl rfl rfl ?ha ?_) | (refine' aRq rfl rfl rfl ?ha ?_) | (refine' aSq rfl rfl rfl ?ha ?_) | (refine' aTq rfl rfl rfl ?ha ?_) | (refine' aUq rfl rfl rfl ?ha ?_) | ((first | refine' xAf (by decide) rfl rfl rfl rfl (fun w => ?hq) ?ha ?_ | refine' xAv (by decide) rfl rfl rfl rfl (fun w => ?hq) ?ha ?_ | refine' xAj (by decide) rfl rfl rfl (fun w => ?hq) ?ha ?_ | refine' xAe (by decide) rfl rfl rfl (fun w => ?hq) ?ha ?_ | refine' xAk (by decide) rfl rfl rfl (fun w => ?hq) ?ha ?_ | refine' xAu (by decide) rfl rfl rfl rfl (fun w => ?hq) ?ha ?_ | refine' xAt (by decide) rfl rfl rfl rfl rfl rfl (fun w => ?hq) ?ha ?_ | refine' xAs (by decide) rfl rfl (fun w => ?hq) ?ha ?_ | refine' xAl (by decide) rfl rfl rfl (fun w => ?hq) ?ha ?_ | refine' xAw (by decide) rfl rfl rfl (fun w => ?hq) ?ha ?_); (case hq => go_simp; try rfl)) | (refine' xAh (by decide) rfl rfl rfl ?ha ?_) | (refine' xBb (by decide) rfl rfl rfl rfl ?ha ?_) | (refine' xAz (by decide) rfl ?ha ?_) | (refine' hd_callR rfl rfl rfl (xBc Tryz.func33 (by kernel_rfl) (by kernel_rfl) _) (fun w hw => cl _ w (.tail _ (.tail _ (.head _))) hw) ?ha ?_)); try (case ha => simp only [kP, kQ, kA, kB]; try rfl))
                refine xBg (hK _ _ ?_)
                clear hK K
                refine xBj (fun Q hQ => ?_)
                try simp only [List.nil_append, List.cons_append]
                try simp only [kP, kQ, kA, kB]
                refine tl_y (xCx (t := 24) (i := t) (n := n) (v := r) (f := thG q n f V i t) (f' := thG q n f V i (t + 1)) rfl rfl rfl rfl htl.out hset.out (.tail .head)) (fun p hp => absurd hp List.not_mem_nil) rfl ?_
                refine xBi (fun w hR => hQ _ _ ?_)
                clear hQ Q
                go_wp2_with (first | (refine' xAb hR rfl rfl rfl ?_; clear hR; intro blk w hR) | (refine' xAa hR rfl rfl inferInstance ?_; clear hR; intro blk w hR) | (refine' aNq hR rfl rfl rfl ?_) | (refine' aOq hR rfl rfl rfl ?_) | (refine' aPq hR rfl rfl rfl ?_) | (refine' aWq hR rfl rfl rfl rfl ?_; clear hR; intro w hR) | (refine' aXq hR rfl rfl rfl rfl rfl ?_; clear hR; intro w hR) | fail)
                exact hK3.out (t + 1) _ _ ht1.out hmt.out (xAr rfl rfl rfl) hR
          · have hkl : k < n := by omega
            have u1 : (k : Int) < (n : Int) := by omega
            have ek : IntKind.i64.wrap ((k : Int) + 1) = ((k + 1 : Nat) : Int) := by rw [IntKind.wrap_i64]; omega
            have hk1 : k + 1 ≤ n := by omega
            have hmk : n - (k + 1) < n - k := by omega
            replace hk1 := Held.mk hk1
            replace hmk := Held.mk hmk
            by_cases hki : k = i
            · have c1 : ¬ (k : Int) ≠ (i : Int) := by omega
              have c2 : ((k : Int) == (i : Int)) = true := by simp; omega
              have c3 : ((k : Int) != (i : Int)) = false := by simp; omega
              have el : lenN i (k + 1) = lenN i k := by unfold lenN; rw [hki, cnt_same]
              have ep : paF q n f V i (k + 1) = paF q n f V i k := by rw [paF, if_pos hki]
              replace el := Held.mk el
              replace ep := Held.mk ep
              generalize lenN i k = ln at *
              clear hk hkn hkl hki
              repeat (first | (obtain ⟨x, tm', e, ht'⟩ := xAg ht; clear ht; subst e; have ht := ht'; clear ht') | (obtain ⟨tm', e, ht'⟩ := xAd ht; clear ht; subst e; have ht := ht'; clear ht'))
              obtain rfl := xAn ht
              clear ht
              go_wp2_with (first | (refine' xAb hR rfl rfl rfl ?_; clear hR; intro blk w hR) | (refine' xAa hR rfl rfl inferInstance ?_; clear hR; intro blk w hR) | (refine' aNq hR rfl rfl rfl ?_) | (refine' aOq hR rfl rfl rfl ?_) | (refine' aPq hR rfl rfl rfl ?_) | (refine' aWq hR rfl rfl rfl rfl ?_; clear hR; intro w hR) | (refine' aXq hR rfl rfl rfl rfl rfl ?_; clear hR; intro w hR) | fail)
              refine hK2.out (k + 1, pb) _ _ hk1.out hmk.out (by show agree _ ((List.set _ 55 (.int .i64 ((k + 1 : Nat) : Int))).set 11 (.slice (some ⟨pb, 0, none⟩) (lenN i (k + 1)) (lenN i (k + 1)))) _; rw [el.out]; exact xAr rfl rfl rfl) ?_
              show Rep _ _ ((pb, .cells (xBu (paF q n f V i (k + 1)) (lenN i (k + 1))).toArray 24) :: _) _
              rw [el.out, ep.out]
              exact hR
            · have c1 : (k : Int) ≠ (i : Int) := by omega
              have c2 : ((k : Int) == (i : Int)) = false := by simp; omega
              have c3 : ((k : Int) != (i : Int)) = true := by simp; omega
              have el : lenN i (k + 1) = lenN i k + 1 := by unfold lenN; rw [cnt_next hki]; omega
              have ep : paF q n f V i (k + 1) = lonF q (lenN i k) (paF q n f V i k) (f k) := by rw [paF, if_neg hki]
              have lpos : 0 < lenN i k := by unfold lenN; omega
              have lbig : lenN i k ≤ 1000 := by unfold lenN cntN; split <;> omega
              have lpa := paF_lt (n := n) (f := f) (V := V) h1 i k
              obtain ⟨ba, off, rfl, hx⟩ := hA.out.at' (by omega)
              obtain ⟨y, hye⟩ : ∃ y, f k = y := ⟨_, rfl⟩
              have ly : y < q := by rw [← hye]; exact hf.out k hkl
              have ld := fun (w : World) (L : List (Nat × Obj)) (hw : Rep W.heap.size W L w) => xBr (hx w (hw.weaken (List.nil_sublist _)) k hkl)
              rw [hye] at ld ep
              have cl := fun (L' : List (Nat × Obj)) (w : World) (hm1 : (pb, Obj.cells (xBu (paF q n f V i k) (lenN i k)).toArray 24) ∈ L') (hmm : (fb, Obj.cells (pfl p q g h E').toArray 79) ∈ L') (hw : Rep W.heap.size W L' w) =>
                longer_any h1 hq ly lpa ((rowsN_own (f := paF q n f V i k) (n := lenN i k) (by omega)).at (B0 := W.heap.size) (w0 := W) hm1 (Nat.le_refl _) (fun j hj => Nat.lt_trans (lpa j hj) hq)) lbig lpos hmm hw
              replace el := Held.mk el
              replace ep := Held.mk ep
              clear lpa lpos lbig
              generalize paF q n f V i k = pk at *
              generalize lenN i k = ln at *
              clear hk hkn hkl hki hx hye ly
              repeat (first | (obtain ⟨x, tm', e, ht'⟩ := xAg ht; clear ht; subst e; have ht := ht'; clear ht') | (obtain ⟨tm', e, ht'⟩ := xAd ht; clear ht; subst e; have ht := ht'; clear ht'))
              obtain rfl := xAn ht
              clear ht
              go_wp2_with (first | (refine' xAb hR rfl rfl rfl ?_; clear hR; intro blk w hR) | (refine' xAa hR rfl rfl inferInstance ?_; clear hR; intro blk w hR) | (refine' aNq hR rfl rfl rfl ?_) | (refine' aOq hR rfl rfl rfl ?_) | (refine' aPq hR rfl rfl rfl ?_) | (refine' aWq hR rfl rfl rfl rfl ?_; clear hR; intro w hR) | (refine' aXq hR rfl rfl rfl rfl rfl ?_; clear hR; intro w hR) | (refine' xCf rfl rfl rfl (ld _ _ hR) ?_) | (go_at_call 39; refine (cl _ _ (.head _) (.tail _ (.tail _ (.head _))) hR).mono ?_; clear hR; rintro e w ⟨pb', rfl, hR⟩))
              refine hK2.out (k + 1, pb') _ _ hk1.out hmk.out (by show agree _ ((List.set _ 55 (.int .i64 ((k + 1 : Nat) : Int))).set 11 (.slice (some ⟨pb', 0, none⟩) (lenN i (k + 1)) (lenN i (k + 1)))) _; rw [el.out]; exact xAr rfl rfl rfl) ?_
              show Rep _ _ ((pb', .cells (xBu (paF q n f V i (k + 1)) (lenN i (k + 1))).toArray 24) :: _) _
              rw [el.out, ep.out]
              exact hR.weaken ((List.sublist_cons_self _ _).cons_cons _)
end
end Go.Proofs.YtaaahfjpnggkbaaGreatDoor
