/- The contract of polys.Weights. -/
import Derived.Test.YtaaahfjpnggkbaaGreatDoorPE
import Derived.Test.YtaaahfjpnggkbaaGreatDoorPR
set_option linter.unusedVariables false
set_option linter.unusedSimpArgs false
namespace Go.Proofs.YtaaahfjpnggkbaaGreatDoor
open Go.RowKit
attribute [local irreducible] Calls Instr.build Instr.buildSlice Instr.makeSlice
theorem wpList_oneNum {ops : Array Oper} {rest : List Oper} {o : Oper} {a : Act} {Q : Exit → Act → World → Prop} {B0 : Nat} {w0 w : World} {L : List (Nat × Obj)} {x : Operand} {m : Nat} (hR : Rep B0 w0 L w) (hg : Region.wanted o (yielded ops a.tmps) = true) (hop : o.op = .buildSlice 27 1 #[(0, x)]) (hx : ev a x = some (num m))
    (h : ∀ b w', Rep B0 w0 ((b, .cells (nl m).toArray 24) :: L) w' → wpList Tryz.prog ops Q rest (a.put o.dst (.slice (some ⟨b, 0, none⟩) 1 1)) w') : wpList Tryz.prog ops Q (o :: rest) a w :=
  wpList_wanted hg fun _ hK => by
    have hx := xBp hx
    unfold Oper.wp execOp
    simp only [hop, List.map_toArray, List.map_cons, List.map_nil, hx, build_nums1, Sem.run_bind, Result.andThen_ok, Sem.run_pure]
    exact hK _ _ (h _ _ (hR.alloc _))
theorem nat_one {B0 : Nat} {w0 : World} {L : List (Nat × Obj)} {b x : Nat} (hx : x < B) (hm : (b, Obj.cells (nl x).toArray 24) ∈ L) : NAt B0 w0 L (some ⟨b, 0, none⟩) 1 1 (fun _ => x) :=
  ⟨Nat.le_refl _, by unfold maxLen; omega, fun _ _ => hx, fun _ => ⟨b, 0, rfl, fun w hw j hj => by
    obtain rfl : j = 0 := by omega
    exact hw.rangeAt (n := 4) hm rfl⟩⟩
noncomputable def uF (q n : Nat) (f : Nat → Nat) (i : Nat) : Nat := prodS q (sOf q 1) (othF q f i (f i)) (n - 1)
noncomputable def vF (q n : Nat) (f : Nat → Nat) (i : Nat) : Nat := if okE (uF q n f i) q then invM (uF q n f i) q else 0
noncomputable def wtF (q n : Nat) (f : Nat → Nat) (x i : Nat) : Nat := prodS q (vF q n f i) (othF q f i x) (n - 1)
noncomputable def wtE (q n : Nat) (f : Nat → Nat) : Nat → Int
  | 0 => 0
  | i + 1 => keepE (wtE q n f i) (invE (uF q n f i) q)
noncomputable def wtG (q n : Nat) (f : Nat → Nat) (x i j : Nat) : Nat := if j < i then wtF q n f x j else 0
theorem uF_lt {q n : Nat} {f : Nat → Nat} (h1 : 1 < q) (i : Nat) : uF q n f i < q := prodS_lt h1 (sOf_lt h1 1) _
theorem vF_lt {q n : Nat} {f : Nat → Nat} (h1 : 1 < q) (i : Nat) : vF q n f i < q := by
  unfold vF
  split
  · by_cases hg : Nat.gcd (uF q n f i) q = 1
    · exact (invM_spec h1 (uF_lt h1 i) hg).1
    · rw [invM_no hg]; omega
  · omega
section
variable {p q g h : Nat} {W : World} {a : Option Addr} {n cp : Nat} {f : Nat → Nat} {x : Nat}
set_option maxRecDepth 100000 in
set_option maxHeartbeats 4000000 in
theorem weights_bad (hp : p < B) (hq : q < B) (hx : x < B) (hA : NAt W.heap.size W [] a n cp f) (hn : n ≤ 1000000) (hno : ¬ (ptsOK q n f ∧ x < q)) :
    Calls Tryz.prog 9 #[grp p q g h, .slice a n cp, num x] W fun en w' => en = .returned (.tuple #[.slice none 0 0, .int .i64 1]) ∧ Below W.heap.size W w' := by
  classical
  have hR := Rep.init W
  have cp0 := fun (s : Bool) (hs : s = true ↔ ptsOK q n f) (L : List (Nat × Obj)) (w : World) (hw : Rep W.heap.size W L w) => points_any (p := p) (g := g) (h := h) hq (hA.any (L := L)) hn s hs hw
  by_cases h1 : ptsOK q n f
  · have cp1 := cp0 true ⟨fun _ => h1, fun _ => rfl⟩
    have cm := fun (b : Nat) (L : List (Nat × Obj)) (w : World) (hm : (b, Obj.cells (nl x).toArray 24) ∈ L) (hw : Rep W.heap.size W L w) => pmay_any (p := p) (g := g) (h := h) hq (nat_one hx hm) (by decide) false ⟨fun hh => (nomatch hh), fun hh => absurd ⟨h1, hh.2 0 (by decide)⟩ hno⟩ hw
    clear cp0 hno h1 hA
    go_enter Tryz.func9, Tryz.ntmps9
    go_wp2_with (first | go_skip | (refine' xAb hR rfl rfl rfl ?_; clear hR; intro blk w hR) | (refine' xAa hR rfl rfl inferInstance ?_; clear hR; intro blk w hR) | (refine' aNq hR rfl rfl rfl ?_) | (refine' aOq hR rfl rfl rfl ?_) | (refine' aPq hR rfl rfl rfl ?_) | (refine' aWq hR rfl rfl rfl rfl ?_; clear hR; intro w hR) | (refine' aXq hR rfl rfl rfl rfl rfl ?_; clear hR; intro w hR) | (refine' xAp hR rfl rfl rfl inferInstance ?hm ?hn ?_; (case hm => first | with_reducible assumption | repeat (first | exact .head _ | with_reducible assumption | apply mC)); (case hn => first | rfl | simp)) | (refine' xAo hR rfl rfl rfl inferInstance ?hm ?hv ?_; (case hm => first | with_reducible assumption | repeat (first | exact .head _ | with_reducible assumption | apply mC)); (case hv => first | rfl | with_reducible assumption)) | (refine' xAx hR rfl rfl rfl inferInstance ?hm ?hv ?hn ?_; (case hm => first | with_reducible assumption | repeat (first | exact .head _ | with_reducible assumption | apply mC)); (case hv => first | with_reducible assumption | (simp only [kC, kD, kE, kF]; try rfl)); (case hn => first | rfl | simp)) | (refine' wpList_oneNum hR rfl rfl rfl ?_; clear hR; intro bt w hR) | (go_at_call 35; refine (cp1 _ _ hR).mono ?_; clear hR; rintro e w ⟨rfl, hR⟩) | (go_at_call 31; refine (cm _ _ _ (.head _) hR).mono ?_; clear hR; rintro e w ⟨rfl, hR⟩))
    go_ret2
    exact ⟨rfl, hR.below⟩
  · have cp1 := cp0 false ⟨fun hh => (nomatch hh), fun hh => absurd hh h1⟩
    clear cp0 hno h1 hA
    go_enter Tryz.func9, Tryz.ntmps9
    go_wp2_with (first | go_skip | (refine' xAb hR rfl rfl rfl ?_; clear hR; intro blk w hR) | (refine' xAa hR rfl rfl inferInstance ?_; clear hR; intro blk w hR) | (refine' aNq hR rfl rfl rfl ?_) | (refine' aOq hR rfl rfl rfl ?_) | (refine' aPq hR rfl rfl rfl ?_) | (refine' aWq hR rfl rfl rfl rfl ?_; clear hR; intro w hR) | (refine' aXq hR rfl rfl rfl rfl rfl ?_; clear hR; intro w hR) | (refine' xAp hR rfl rfl rfl inferInstance ?hm ?hn ?_; (case hm => first | with_reducible assumption | repeat (first | exact .head _ | with_reducible assumption | apply mC)); (case hn => first | rfl | simp)) | (refine' xAo hR rfl rfl rfl inferInstance ?hm ?hv ?_; (case hm => first | with_reducible assumption | repeat (first | exact .head _ | with_reducible assumption | apply mC)); (case hv => first | rfl | with_reducible assumption)) | (refine' xAx hR rfl rfl rfl inferInstance ?hm ?hv ?hn ?_; (case hm => first | with_reducible assumption | repeat (first | exact .head _ | with_reducible assumption | apply mC)); (case hv => first | with_reducible assumption | (simp only [kC, kD, kE, kF]; try rfl)); (case hn => first | rfl | simp)) | (go_at_call 35; refine (cp1 _ _ hR).mono ?_; clear hR; rintro e w ⟨rfl, hR⟩))
    go_ret2
    exact ⟨rfl, hR.below⟩
set_option maxRecDepth 100000 in
set_option maxHeartbeats 8000000 in
set_option maxRecDepth 100000 in
theorem weights_go (hp : p < B) (hq : q < B) (hA : NAt W.heap.size W [] a n cp f) (hn : n ≤ 1000000) (hok : ptsOK q n f) {xv : Nat} (hx : xv < q) :
    Calls Tryz.prog 9 #[grp p q g h, .slice a n cp, num xv] W fun en w' => (wtE q n f n = 0 ∧ ∃ gb, en = .returned (.tuple #[.slice (some ⟨gb, 0, none⟩) n n, .int .i64 0]) ∧ ∃ cur : List Value, NOwn n cur n (wtF q n f xv) ∧ Rep W.heap.size W [(gb, .cells cur.toArray 24)] w') ∨
      (wtE q n f n ≠ 0 ∧ en = .returned (.tuple #[.slice none 0 0, .int .i64 7]) ∧ Below W.heap.size W w') := by
  have hR := Rep.init W
  obtain ⟨hn0, hdist, h1, hf⟩ := hok
  have hxB := Nat.lt_trans hx hq
  have cp1 := fun (L : List (Nat × Obj)) (w : World) (hw : Rep W.heap.size W L w) => points_any (p := p) (g := g) (h := h) hq (hA.any (L := L)) hn true ⟨fun _ => ⟨hn0, hdist, h1, hf⟩, fun _ => rfl⟩ hw
  have cm := fun (b : Nat) (L : List (Nat × Obj)) (w : World) (hm : (b, Obj.cells (nl xv).toArray 24) ∈ L) (hw : Rep W.heap.size W L w) => pmay_any (p := p) (g := g) (h := h) hq (nat_one hxB hm) (by decide) true ⟨fun _ => ⟨h1, fun _ _ => hx⟩, fun _ => rfl⟩ hw
  have bf := fun w => build_pfl p q g h w
  clear hdist
  replace hA := Held.mk hA
  replace hf := Held.mk hf
  replace hn0 := Held.mk hn0
  go_enter Tryz.func9, Tryz.ntmps9
  go_wp2_with (first | go_skip | (refine' xAb hR rfl rfl rfl ?_; clear hR; intro blk w hR) | (refine' xAa hR rfl rfl inferInstance ?_; clear hR; intro blk w hR) | (refine' aNq hR rfl rfl rfl ?_) | (refine' aOq hR rfl rfl rfl ?_) | (refine' aPq hR rfl rfl rfl ?_) | (refine' aWq hR rfl rfl rfl rfl ?_; clear hR; intro w hR) | (refine' aXq hR rfl rfl rfl rfl rfl ?_; clear hR; intro w hR) | (refine' xAp hR rfl rfl rfl inferInstance ?hm ?hn ?_; (case hm => first | with_reducible assumption | repeat (first | exact .head _ | with_reducible assumption | apply mC)); (case hn => first | rfl | simp)) | (refine' xAo hR rfl rfl rfl inferInstance ?hm ?hv ?_; (case hm => first | with_reducible assumption | repeat (first | exact .head _ | with_reducible assumption | apply mC)); (case hv => first | rfl | with_reducible assumption)) | (refine' xAx hR rfl rfl rfl inferInstance ?hm ?hv ?hn ?_; (case hm => first | with_reducible assumption | repeat (first | exact .head _ | with_reducible assumption | apply mC)); (case hv => first | with_reducible assumption | (simp only [kC, kD, kE, kF]; try rfl)); (case hn => first | rfl | simp)) | (refine' wpList_oneNum hR rfl rfl rfl ?_; clear hR; intro bt w hR) | (go_at_call 35; refine (cp1 _ _ hR).mono ?_; clear hR; rintro e w ⟨rfl, hR⟩) | (go_at_call 31; refine (cm _ _ _ (.head _) hR).mono ?_; clear hR; rintro e w ⟨rfl, hR⟩))
  clear cp1 cm
  (first | (rename_i b3; change Nat at b3) | (rename_i b3 _; change Nat at b3) | (rename_i b3 _ _; change Nat at b3) | (rename_i b3 _ _ _; change Nat at b3) | (rename_i b3 _ _ _ _; change Nat at b3) | (rename_i b3 _ _ _ _ _; change Nat at b3) | (rename_i b3 _ _ _ _ _ _; change Nat at b3) | (rename_i b3 _ _ _ _ _ _ _; change Nat at b3) | (rename_i b3 _ _ _ _ _ _ _ _; change Nat at b3) | (rename_i b3 _ _ _ _ _ _ _ _ _; change Nat at b3) | (rename_i b3 _ _ _ _ _ _ _ _ _ _; change Nat at b3) | (rename_i b3 _ _ _ _ _ _ _ _ _ _ _; change Nat at b3) | (rename_i b3 _ _ _ _ _ _ _ _ _ _ _ _; change Nat at b3) | (rename_i b3 _ _ _ _ _ _ _ _ _ _ _ _ _; change Nat at b3) | (rename_i b3 _ _ _ _ _ _ _ _ _ _ _ _ _ _; change Nat at b3) | (rename_i b3 _ _ _ _ _ _ _ _ _ _ _ _ _ _ _; change Nat at b3) | (rename_i b3 _ _ _ _ _ _ _ _ _ _ _ _ _ _ _ _; change Nat at b3) | (rename_i b3 _ _ _ _ _ _ _ _ _ _ _ _ _ _ _ _ _; change Nat at b3) | (rename_i b3 _ _ _ _ _ _ _ _ _ _ _ _ _ _ _ _ _ _; change Nat at b3) | (rename_i b3 _ _ _ _ _ _ _ _ _ _ _ _ _ _ _ _ _ _ _; change Nat at b3) | (rename_i b3 _ _ _ _ _ _ _ _ _ _ _ _ _ _ _ _ _ _ _ _; change Nat at b3) | (rename_i b3 _ _ _ _ _ _ _ _ _ _ _ _ _ _ _ _ _ _ _ _ _; change Nat at b3) | (rename_i b3 _ _ _ _ _ _ _ _ _ _ _ _ _ _ _ _ _ _ _ _ _ _; change Nat at b3) | (rename_i b3 _ _ _ _ _ _ _ _ _ _ _ _ _ _ _ _ _ _ _ _ _ _ _; change Nat at b3) | (rename_i b3 _ _ _ _ _ _ _ _ _ _ _ _ _ _ _ _ _ _ _ _ _ _ _ _; change Nat at b3) | (rename_i b3 _ _ _ _ _ _ _ _ _ _ _ _ _ _ _ _ _ _ _ _ _ _ _ _ _; change Nat at b3) | (rename_i b3 _ _ _ _ _ _ _ _ _ _ _ _ _ _ _ _ _ _ _ _ _ _ _ _ _ _; change Nat at b3) | (rename_i b3 _ _ _ _ _ _ _ _ _ _ _ _ _ _ _ _ _ _ _ _ _ _ _ _ _ _ _; change Nat at b3) | (rename_i b3 _ _ _ _ _ _ _ _ _ _ _ _ _ _ _ _ _ _ _ _ _ _ _ _ _ _ _ _; change Nat at b3) | (rename_i b3 _ _ _ _ _ _ _ _ _ _ _ _ _ _ _ _ _ _ _ _ _ _ _ _ _ _ _ _ _; change Nat at b3))
  replace hR := hR.drop1
  try simp only [Act.put, kA, kB, List.setIfInBounds_toArray]
  refine cut_code (fun l tm w' => ∃ fb gb, agree (false :: false :: false :: false :: false :: false :: false :: false :: false :: false :: false :: false :: false :: false :: false :: false :: false :: false :: false :: false :: false :: false :: true :: true :: true :: true :: true :: true :: false :: false :: false :: false :: false :: false :: false :: false :: false :: false :: false :: false :: false :: false :: false :: false :: false :: false :: false :: false :: false :: false :: false :: false :: false :: false :: false :: []) ((l.set 8 (.pointer (some ⟨fb, 0, none⟩))).set 9 (.slice (some ⟨gb, 0, none⟩) n n)) tm ∧ Rep W.heap.size W ((gb, .cells (xBu (fun _ => 0) n).toArray 24) :: (fb, .cells (pfl p q g h 0).toArray 79) :: (blk, .cells (nl xv).toArray 24) :: (b3, .cells (gl p q g h).toArray 26) :: []) w') ?r1 ?r2
  case r1 =>
    intro Q' hQ'
    refine xCr hR 8 xBt rfl ?_
    clear hR
    refine fHeads [(b3, .cells (gl p q g h).toArray 26)] [1, 1, 2, 1, 1, 2, 2, 2] 4 rfl (by repeat (first | exact xBk | refine xBf (by repeat (first | exact .head _ | with_reducible assumption | apply mC)) ?_)) (by repeat (first | exact xBk | refine xBf (by repeat (first | exact .head _ | with_reducible assumption | apply mC)) ?_)) rfl (by decide +kernel) (fun K hK => ?_)
    repeat ((first | (refine' hd_build1P (by decide) rfl rfl rfl bf ?ha ?_) | (refine xBa ?_) | (refine' xAm (by decide) rfl (.inl rfl) rfl ?ha ?_) | (refine' xAm (by decide) rfl (.inr rfl) rfl ?ha ?_) | (refine' aQq rfl rfl rfl ?ha ?_) | (refine' aRq rfl rfl rfl ?ha ?_) | (refine' aSq rfl rfl rfl ?ha ?_) | (refine' aTq rfl rfl rfl ?ha ?_) | (refine' aUq rfl rfl rfl ?ha ?_) | ((first | refine' xAf (by decide) rfl rfl rfl rfl (fun w => ?hq) ?ha ?_ | refine' xAv (by decide) rfl rfl rfl rfl (fun w => ?hq) ?ha ?_ | refine' xAj (by decide) rfl rfl rfl (fun w => ?hq) ?ha ?_ | refine' xAe (by decide) rfl rfl rfl (fun w => ?hq) ?ha ?_ | refine' xAk (by decide) rfl rfl rfl (fun w => ?hq) ?ha ?_ | refine' xAu (by decide) rfl rfl rfl rfl (fun w => ?hq) ?ha ?_ | refine' xAt (by decide) rfl rfl rfl rfl rfl rfl (fun w => ?hq) ?ha ?_ | refine' xAs (by decide) rfl rfl (fun w => ?hq) ?ha ?_ | refine' xAl (by decide) rfl rfl rfl (fun w => ?hq) ?ha ?_ | refine' xAw (by decide) rfl rfl rfl (fun w => ?hq) ?ha ?_); (case hq => go_simp; try rfl)) | (refine' xAh (by decide) rfl rfl rfl ?ha ?_) | (refine' xBb (by decide) rfl rfl rfl rfl ?ha ?_) | (refine' xAz (by decide) rfl ?ha ?_) | (refine' hd_len (by decide) rfl rfl rfl (fun w => ?hq) ?ha ?_; (case hq => go_simp; try rfl))); try (case ha => simp only [kP, kQ, kA, kB]; try rfl))
    refine xBg (hK _ _ ?_)
    clear hK K
    refine f_at [2, 5] (by decide +kernel) rfl ?_
    refine f_is 2 ?_
    refine f_new rfl rfl (isNew_box rfl rfl rfl) (by repeat (first | exact xBk | refine xBf (by repeat (first | exact .head _ | with_reducible assumption | apply mC)) ?_)) (fun fb => ?goA) ?goB
    case' goA =>
      simp only [Act.put, kA, kB, List.setIfInBounds_toArray]
      refine fHeads [(b3, .cells (gl p q g h).toArray 26)] [2, 2, 2, 2, 2, 2, 1, 2] 2 rfl (by repeat (first | exact xBk | refine xBf (by repeat (first | exact .head _ | with_reducible assumption | apply mC)) ?_)) (by repeat (first | exact xBk | refine xBf (by repeat (first | exact .head _ | with_reducible assumption | apply mC)) ?_)) rfl (by decide +kernel) (fun K hK => ?_)
      repeat ((first | (refine xBa ?_) | (refine' xAm (by decide) rfl (.inl rfl) rfl ?ha ?_) | (refine' xAm (by decide) rfl (.inr rfl) rfl ?ha ?_) | (refine' aQq rfl rfl rfl ?ha ?_) | (refine' aRq rfl rfl rfl ?ha ?_) | (refine' aSq rfl rfl rfl ?ha ?_) | (refine' aTq rfl rfl rfl ?ha ?_) | (refine' aUq rfl rfl rfl ?ha ?_) | ((first | refine' xAf (by decide) rfl rfl rfl rfl (fun w => ?hq) ?ha ?_ | refine' xAv (by decide) rfl rfl rfl rfl (fun w => ?hq) ?ha ?_ | refine' xAj (by decide) rfl rfl rfl (fun w => ?hq) ?ha ?_ | refine' xAe (by decide) rfl rfl rfl (fun w => ?hq) ?ha ?_ | refine' xAk (by decide) rfl rfl rfl (fun w => ?hq) ?ha ?_ | refine' xAu (by decide) rfl rfl rfl rfl (fun w => ?hq) ?ha ?_ | refine' xAt (by decide) rfl rfl rfl rfl rfl rfl (fun w => ?hq) ?ha ?_ | refine' xAs (by decide) rfl rfl (fun w => ?hq) ?ha ?_ | refine' xAl (by decide) rfl rfl rfl (fun w => ?hq) ?ha ?_ | refine' xAw (by decide) rfl rfl rfl (fun w => ?hq) ?ha ?_); (case hq => go_simp; try rfl)) | (refine' xAh (by decide) rfl rfl rfl ?ha ?_) | (refine' xBb (by decide) rfl rfl rfl rfl ?ha ?_) | (refine' xAz (by decide) rfl ?ha ?_) | fail); try (case ha => simp only [kP, kQ, kA, kB]; try rfl))
      refine xBg (hK _ _ ?_)
      clear hK K
      refine f_at [5] (by decide +kernel) rfl ?_
      refine f_is 5 ?_
      refine f_new rfl rfl (isNew_numsZ rfl rfl rfl rfl hn) (by repeat (first | exact xBk | refine xBf (by repeat (first | exact .head _ | with_reducible assumption | apply mC)) ?_)) (fun gb => ?_) f_nil
      simp only [Act.put, kA, kB, List.setIfInBounds_toArray]
      refine fHeads [(b3, .cells (gl p q g h).toArray 26)] [2, 2, 2, 2, 2, 2, 2, 1] 0 rfl (by repeat (first | exact xBk | refine xBf (by repeat (first | exact .head _ | with_reducible assumption | apply mC)) ?_)) (by repeat (first | exact xBk | refine xBf (by repeat (first | exact .head _ | with_reducible assumption | apply mC)) ?_)) rfl (by decide +kernel) (fun K hK => ?_)
      repeat ((first | (refine xBa ?_) | (refine' xAm (by decide) rfl (.inl rfl) rfl ?ha ?_) | (refine' xAm (by decide) rfl (.inr rfl) rfl ?ha ?_) | (refine' aQq rfl rfl rfl ?ha ?_) | (refine' aRq rfl rfl rfl ?ha ?_) | (refine' aSq rfl rfl rfl ?ha ?_) | (refine' aTq rfl rfl rfl ?ha ?_) | (refine' aUq rfl rfl rfl ?ha ?_) | ((first | refine' xAf (by decide) rfl rfl rfl rfl (fun w => ?hq) ?ha ?_ | refine' xAv (by decide) rfl rfl rfl rfl (fun w => ?hq) ?ha ?_ | refine' xAj (by decide) rfl rfl rfl (fun w => ?hq) ?ha ?_ | refine' xAe (by decide) rfl rfl rfl (fun w => ?hq) ?ha ?_ | refine' xAk (by decide) rfl rfl rfl (fun w => ?hq) ?ha ?_ | refine' xAu (by decide) rfl rfl rfl rfl (fun w => ?hq) ?ha ?_ | refine' xAt (by decide) rfl rfl rfl rfl rfl rfl (fun w => ?hq) ?ha ?_ | refine' xAs (by decide) rfl rfl (fun w => ?hq) ?ha ?_ | refine' xAl (by decide) rfl rfl rfl (fun w => ?hq) ?ha ?_ | refine' xAw (by decide) rfl rfl rfl (fun w => ?hq) ?ha ?_); (case hq => go_simp; try rfl)) | (refine' xAh (by decide) rfl rfl rfl ?ha ?_) | (refine' xBb (by decide) rfl rfl rfl rfl ?ha ?_) | (refine' xAz (by decide) rfl ?ha ?_) | fail); try (case ha => simp only [kP, kQ, kA, kB]; try rfl))
      refine xBg (hK _ _ ?_)
      clear hK K
    case' goB =>
      refine f_is 5 ?_
      refine f_new rfl rfl (isNew_numsZ rfl rfl rfl rfl hn) (by repeat (first | exact xBk | refine xBf (by repeat (first | exact .head _ | with_reducible assumption | apply mC)) ?_)) (fun gb => ?_) f_nil
      simp only [Act.put, kA, kB, List.setIfInBounds_toArray]
      refine f_at [2] (by decide +kernel) rfl ?_
      refine f_is 2 ?_
      refine f_new rfl rfl (isNew_box rfl rfl rfl) (by repeat (first | exact xBk | refine xBf (by repeat (first | exact .head _ | with_reducible assumption | apply mC)) ?_)) (fun fb => ?_) f_nil
      simp only [Act.put, kA, kB, List.setIfInBounds_toArray]
      refine fHeads [(b3, .cells (gl p q g h).toArray 26)] [2, 2, 2, 2, 2, 2, 1, 1] 0 rfl (by repeat (first | exact xBk | refine xBf (by repeat (first | exact .head _ | with_reducible assumption | apply mC)) ?_)) (by repeat (first | exact xBk | refine xBf (by repeat (first | exact .head _ | with_reducible assumption | apply mC)) ?_)) rfl (by decide +kernel) (fun K hK => ?_)
      repeat ((first | (refine xBa ?_) | (refine' xAm (by decide) rfl (.inl rfl) rfl ?ha ?_) | (refine' xAm (by decide) rfl (.inr rfl) rfl ?ha ?_) | (refine' aQq rfl rfl rfl ?ha ?_) | (refine' aRq rfl rfl rfl ?ha ?_) | (refine' aSq rfl rfl rfl ?ha ?_) | (refine' aTq rfl rfl rfl ?ha ?_) | (refine' aUq rfl rfl rfl ?ha ?_) | ((first | refine' xAf (by decide) rfl rfl rfl rfl (fun w => ?hq) ?ha ?_ | refine' xAv (by decide) rfl rfl rfl rfl (fun w => ?hq) ?ha ?_ | refine' xAj (by decide) rfl rfl rfl (fun w => ?hq) ?ha ?_ | refine' xAe (by decide) rfl rfl rfl (fun w => ?hq) ?ha ?_ | refine' xAk (by decide) rfl rfl rfl (fun w => ?hq) ?ha ?_ | refine' xAu (by decide) rfl rfl rfl rfl (fun w => ?hq) ?ha ?_ | refine' xAt (by decide) rfl rfl rfl rfl rfl rfl (fun w => ?hq) ?ha ?_ | refine' xAs (by decide) rfl rfl (fun w => ?hq) ?ha ?_ | refine' xAl (by decide) rfl rfl rfl (fun w => ?hq) ?ha ?_ | refine' xAw (by decide) rfl rfl rfl (fun w => ?hq) ?ha ?_); (case hq => go_simp; try rfl)) | (refine' xAh (by decide) rfl rfl rfl ?ha ?_) | (refine' xBb (by decide) rfl rfl rfl rfl ?ha ?_) | (refine' xAz (by decide) rfl ?ha ?_) | fail); try (case ha => simp only [kP, kQ, kA, kB]; try rfl))
      refine xBg (hK _ _ ?_)
      clear hK K
    all_goals
      refine f_end (by decide +kernel) (fun w hR => ?_)
      simp only [Exit.then]
      refine hQ'.out _ _ ⟨fb, gb, xAr rfl rfl rfl, ?_⟩
      first | exact hR | exact hR.permT (List.Perm.swap _ _ _)
  case r2 =>
    clear hR
    rename_i K5 k5
    rintro tm w ⟨fb, gb, ht, hR⟩
    repeat (first | (obtain ⟨x, tm', e, ht'⟩ := xAg ht; clear ht; subst e; have ht := ht'; clear ht') | (obtain ⟨tm', e, ht'⟩ := xAd ht; clear ht; subst e; have ht := ht'; clear ht'))
    obtain rfl := xAn ht
    clear ht
    simp only [Exit.then]
    refine k5 _ _ ?_
    go_wp2_with (first | (refine' xAb hR rfl rfl rfl ?_; clear hR; intro blk w hR) | (refine' xAa hR rfl rfl inferInstance ?_; clear hR; intro blk w hR) | (refine' aNq hR rfl rfl rfl ?_) | (refine' aOq hR rfl rfl rfl ?_) | (refine' aPq hR rfl rfl rfl ?_) | (refine' aWq hR rfl rfl rfl rfl ?_; clear hR; intro w hR) | (refine' aXq hR rfl rfl rfl rfl rfl ?_; clear hR; intro w hR) | fail)
    have e0 : xBu (fun _ => 0) n = xBu (wtG q n f xv 0) n := xBq (fun j hj => by unfold wtG; rw [if_neg (by omega)])
    rw [e0] at hR
    clear e0
    try simp only [Act.put, kA, kB, List.setIfInBounds_toArray]
    refine' xBm (false :: false :: false :: false :: false :: false :: false :: false :: false :: false :: true :: false :: false :: false :: false :: false :: false :: false :: false :: false :: false :: false :: false :: false :: false :: false :: false :: false :: false :: false :: false :: true :: true :: true :: true :: true :: true :: true :: true :: true :: true :: true :: true :: true :: true :: true :: true :: true :: true :: false :: false :: false :: false :: false :: false :: []) (fun (i : Nat) l => l.set 30 (.int .i64 (i : Int))) (fun i => (gb, .cells (xBu (wtG q n f xv i) n).toArray 24) :: (fb, .cells (pfl p q g h (wtE q n f i)).toArray 79) :: (blk, .cells (nl xv).toArray 24) :: (b3, .cells (gl p q g h).toArray 26) :: []) (fun i => n - i) (fun i => i ≤ n) 0 ?h0 ?hO ?hR ?hs
    case h0 => exact xAr rfl rfl rfl
    case hO => exact Nat.zero_le _
    case hR => exact hR
    case hs =>
      clear hR
      intro i tm w hi ht hR K hK
      have g0 : 0 ≤ (i : Int) := by omega
      by_cases hik : i = n
      · subst hik
        have t1 : ¬ (i : Int) < (i : Int) := by omega
        have hfin : NOwn i (xBu (wtG q i f xv i) i) i (wtF q i f xv) := ⟨Nat.le_refl _, by unfold maxLen; omega, xBl _ _, by
          rw [List.take_of_length_le (by rw [xBl]; exact Nat.le_refl _)]
          exact xBq fun j hj => by unfold wtG; rw [if_pos hj]⟩
        obtain ⟨E, hE⟩ : ∃ E, wtE q i f i = E := ⟨_, rfl⟩
        replace hR := (show Rep _ _ ((gb, _) :: (fb, .cells (pfl p q g h (wtE q i f i)).toArray 79) :: _) _ from hR)
        rw [hE] at hR
        have te := pfl_e p q g h E
        replace hfin := Held.mk hfin
        replace hE := Held.mk hE
        generalize xBu (wtG q i f xv i) i = rows at *
        clear hK hi hA hf hn0
        by_cases hE0 : E = 0
        · subst hE0
          repeat (first | (obtain ⟨x, tm', e, ht'⟩ := xAg ht; clear ht; subst e; have ht := ht'; clear ht') | (obtain ⟨tm', e, ht'⟩ := xAd ht; clear ht; subst e; have ht := ht'; clear ht'))
          obtain rfl := xAn ht
          clear ht
          go_wp2_with (first | (refine' xAb hR rfl rfl rfl ?_; clear hR; intro blk w hR) | (refine' xAa hR rfl rfl inferInstance ?_; clear hR; intro blk w hR) | (refine' aNq hR rfl rfl rfl ?_) | (refine' aOq hR rfl rfl rfl ?_) | (refine' aPq hR rfl rfl rfl ?_) | (refine' aWq hR rfl rfl rfl rfl ?_; clear hR; intro w hR) | (refine' aXq hR rfl rfl rfl rfl rfl ?_; clear hR; intro w hR) | fail)
          go_ret2
          exact .inl ⟨hE.out, gb, rfl, rows, hfin.out, hR.weaken (.cons_cons _ (List.nil_sublist _))⟩
        · have c1 : (E == 0) = false := by simp; exact hE0
          have c2 : (E != 0) = true := by simp; exact hE0
          have hE1 : wtE q i f i ≠ 0 := by rw [hE.out]; exact hE0
          replace hE1 := Held.mk hE1
          repeat (first | (obtain ⟨x, tm', e, ht'⟩ := xAg ht; clear ht; subst e; have ht := ht'; clear ht') | (obtain ⟨tm', e, ht'⟩ := xAd ht; clear ht; subst e; have ht := ht'; clear ht'))
          obtain rfl := xAn ht
          clear ht
          go_wp2_with (first | (refine' xAb hR rfl rfl rfl ?_; clear hR; intro blk w hR) | (refine' xAa hR rfl rfl inferInstance ?_; clear hR; intro blk w hR) | (refine' aNq hR rfl rfl rfl ?_) | (refine' aOq hR rfl rfl rfl ?_) | (refine' aPq hR rfl rfl rfl ?_) | (refine' aWq hR rfl rfl rfl rfl ?_; clear hR; intro w hR) | (refine' aXq hR rfl rfl rfl rfl rfl ?_; clear hR; intro w hR) | fail)
          go_ret2
          exact .inr ⟨hE1.out, rfl, hR.below⟩
      · have hin : i < n := by omega
        have g1 : (i : Int) < (n : Int) := by omega
        have ei : IntKind.i64.wrap ((i : Int) + 1) = ((i + 1 : Nat) : Int) := by rw [IntKind.wrap_i64]; omega
        have hi1 : i + 1 ≤ n := by omega
        have hmu : n - (i + 1) < n - i := by omega
        replace hi1 := Held.mk hi1
        replace hmu := Held.mk hmu
        obtain ⟨v, hv⟩ : ∃ v, vF q n f i = v := ⟨_, rfl⟩
        have lv : v < q := by rw [← hv]; exact vF_lt h1 i
        obtain ⟨E, hE⟩ : ∃ E, wtE q n f i = E := ⟨_, rfl⟩
        obtain ⟨E', hE'⟩ : ∃ E, wtE q n f (i + 1) = E := ⟨_, rfl⟩
        have hEE : keepE E (invE (uF q n f i) q) = E' := by rw [← hE', wtE, hE]
        obtain ⟨r, hr⟩ : ∃ r, wtF q n f xv i = r := ⟨_, rfl⟩
        have cw := fun (M N : List (Nat × Obj)) (w : World) (hst : xCa M fb (.cells (pfl p q g h E).toArray 79) (.cells (pfl p q g h E').toArray 79) N) (hw : Rep W.heap.size W M w) => weight_any (r := v) h1 hq hf.out hA.out hn hin rfl (show (if okE (uF q n f i) q then invM (uF q n f i) q else 0) = v from hv) rfl hEE hst hw
        have co := fun (L' : List (Nat × Obj)) (w : World) (hmm : (fb, Obj.cells (pfl p q g h E').toArray 79) ∈ L') (hw : Rep W.heap.size W L' w) => others_any (i := i) (xv := xv) h1 hq hx hf.out hA.out hn hin hmm hw
        have lo : ∀ j, othF q f i xv j < q := fun j => by unfold othF; exact subN_lt h1 _ _
        obtain ⟨F, hFe⟩ : ∃ F, othF q f i xv = F := ⟨_, rfl⟩
        have hP : prodS q v F (n - 1) = r := by rw [← hr, wtF, hv, hFe]
        rw [hFe] at co lo
        have cg := fun (X : GrN) (L' : List (Nat × Obj)) (w : World) (hX : GrNOk X (n - 1) F) (hL : ∀ p, p ∈ X.bl → p ∈ L') (hmm : (fb, Obj.cells (pfl p q g h E').toArray 79) ∈ L') (hw : Rep W.heap.size W L' w) =>
          gt_ok h1 hq lv (fun j _ => lo j) (grN_nat hX (fun j _ => Nat.lt_trans (lo j) hq) hL) (by omega) hmm hw
        rw [hP] at cg
        obtain ⟨n1, hn1⟩ : ∃ x, n - 1 = x := ⟨_, rfl⟩
        rw [hn1] at co cg
        have hset : ∀ j, j < n → wtG q n f xv (i + 1) j = if j = i then r else wtG q n f xv i j := fun j hj => by
          unfold wtG
          by_cases hji : j = i
          · subst hji
            rw [if_pos (by omega), if_pos rfl, hr]
          · rw [if_neg hji]
            by_cases h2 : j < i
            · rw [if_pos (by omega), if_pos h2]
            · rw [if_neg (by omega), if_neg h2]
        replace hset := Held.mk hset
        replace hR := (show Rep _ _ ((gb, _) :: (fb, .cells (pfl p q g h (wtE q n f i)).toArray 79) :: _) _ from hR)
        rw [hE] at hR
        replace hE' := Held.mk hE'
        clear hi hA hf hn0 hik hv hE hEE hr hFe hP hn1
        repeat (first | (obtain ⟨x, tm', e, ht'⟩ := xAg ht; clear ht; subst e; have ht := ht'; clear ht') | (obtain ⟨tm', e, ht'⟩ := xAd ht; clear ht; subst e; have ht := ht'; clear ht'))
        obtain rfl := xAn ht
        clear ht
        go_wp2_with (first | (refine' xAb hR rfl rfl rfl ?_; clear hR; intro blk w hR) | (refine' xAa hR rfl rfl inferInstance ?_; clear hR; intro blk w hR) | (refine' aNq hR rfl rfl rfl ?_) | (refine' aOq hR rfl rfl rfl ?_) | (refine' aPq hR rfl rfl rfl ?_) | (refine' aWq hR rfl rfl rfl rfl ?_; clear hR; intro w hR) | (refine' aXq hR rfl rfl rfl rfl rfl ?_; clear hR; intro w hR) | fail)
        rename_i K6 k6
        try simp only [Act.put, kA, kB, List.setIfInBounds_toArray]
        refine xCr hR 16 xBt rfl ?_
        clear hR
        refine fHeads [(blk, .cells (nl xv).toArray 24)] [1, 1, 1, 1, 1, 2, 1, 1, 1, 1, 2, 1, 1, 2, 2, 2] 5 rfl (by repeat (first | exact xBk | refine xBf (by repeat (first | exact .head _ | with_reducible assumption | apply mC)) ?_)) (by repeat (first | exact xBk | refine xBf (by repeat (first | exact .head _ | with_reducible assumption | apply mC)) ?_)) rfl (by decide +kernel) (fun K hK => ?_)
        repeat ((first | (refine xBa ?_) | (refine' xAm (by decide) rfl (.inl rfl) rfl ?ha ?_) | (refine' xAm (by decide) rfl (.inr rfl) rfl ?ha ?_) | (refine' aQq rfl rfl rfl ?ha ?_) | (refine' aRq rfl rfl rfl ?ha ?_) | (refine' aSq rfl rfl rfl ?ha ?_) | (refine' aTq rfl rfl rfl ?ha ?_) | (refine' aUq rfl rfl rfl ?ha ?_) | ((first | refine' xAf (by decide) rfl rfl rfl rfl (fun w => ?hq) ?ha ?_ | refine' xAv (by decide) rfl rfl rfl rfl (fun w => ?hq) ?ha ?_ | refine' xAj (by decide) rfl rfl rfl (fun w => ?hq) ?ha ?_ | refine' xAe (by decide) rfl rfl rfl (fun w => ?hq) ?ha ?_ | refine' xAk (by decide) rfl rfl rfl (fun w => ?hq) ?ha ?_ | refine' xAu (by decide) rfl rfl rfl rfl (fun w => ?hq) ?ha ?_ | refine' xAt (by decide) rfl rfl rfl rfl rfl rfl (fun w => ?hq) ?ha ?_ | refine' xAs (by decide) rfl rfl (fun w => ?hq) ?ha ?_ | refine' xAl (by decide) rfl rfl rfl (fun w => ?hq) ?ha ?_ | refine' xAw (by decide) rfl rfl rfl (fun w => ?hq) ?ha ?_); (case hq => go_simp; try rfl)) | (refine' xAh (by decide) rfl rfl rfl ?ha ?_) | (refine' xBb (by decide) rfl rfl rfl rfl ?ha ?_) | (refine' xAz (by decide) rfl ?ha ?_) | (refine' hd_makeFunc (by decide) rfl rfl rfl rfl ?ha ?_)); try (case ha => simp only [kP, kQ, kA, kB]; try rfl))
        refine xBg (hK _ _ ?_)
        clear hK K
        refine f_at [5] (by decide +kernel) rfl ?_
        refine f_is 5 ?_
        refine f_y rfl rfl (xCt rfl rfl rfl (xBc Tryz.func37 (by kernel_rfl) (by kernel_rfl) _) (fun w hw => cw _ _ w (.tail .head) hw)) (by repeat (first | exact xBk | refine xBf (by repeat (first | exact .head _ | with_reducible assumption | apply mC)) ?_)) ?_ f_nil
        simp only [Act.put, kA, kB, List.setIfInBounds_toArray]
        refine f_at [10] (by decide +kernel) rfl ?_
        refine f_is 10 ?_
        refine f_call (fun v M => ∃ X : GrN, v = .slice X.a (n1 : Nat) X.cap ∧ GrNOk X n1 F ∧ M = X.bl ++ _) rfl rfl rfl rfl rfl (xBc Tryz.func38 (by kernel_rfl) (by kernel_rfl) _) (fun w hw => (co _ w (.tail _ (.head _)) hw).mono fun e w' ⟨X, he, hX, hR⟩ => ⟨_, he, _, ⟨X, rfl, hX, rfl⟩, hR⟩) (fun v M hM => ?_) f_nil
        obtain ⟨X, rfl, hX, rfl⟩ := hM
        have m1 : ∀ (N : List (Nat × Obj)) (q : Nat × Obj), q ∈ N → q ∈ X.bl ++ N := fun N q hq => List.mem_append_right _ hq
        refine ⟨(by
          intro p hp
          refine m1 _ _ ?_
          revert p
          exact (by repeat (first | exact xBk | refine xBf (by repeat (first | exact .head _ | with_reducible assumption | apply mC)) ?_))), ?_⟩
        simp only [Act.put, kA, kB, List.setIfInBounds_toArray]
        refine f_at [13] (by decide +kernel) rfl ?_
        refine f_is 13 ?_
        refine f_y rfl rfl (xCt rfl rfl rfl (xBc Tryz.func36 (by kernel_rfl) (by kernel_rfl) _) (fun w hw => cg X _ w hX (fun p hp => List.mem_append_left _ hp) (m1 _ _ (.tail _ (.head _))) hw)) (by
          intro p hp
          refine m1 _ _ ?_
          revert p
          exact (by repeat (first | exact xBk | refine xBf (by repeat (first | exact .head _ | with_reducible assumption | apply mC)) ?_))) ?_ f_nil
        simp only [Act.put, kA, kB, List.setIfInBounds_toArray]
        refine f_at [14] (by decide +kernel) rfl ?_
        refine f_is 14 ?_
        refine f_y rfl rfl (yields_indexAddr (u := .pointer (some ⟨gb, i * 4, none⟩)) rfl rfl rfl rfl (fun w => by go_simp)) (by
          intro p hp
          refine m1 _ _ ?_
          revert p
          exact (by repeat (first | exact xBk | refine xBf (by repeat (first | exact .head _ | with_reducible assumption | apply mC)) ?_))) ?_ f_nil
        simp only [Act.put, kA, kB, List.setIfInBounds_toArray]
        refine f_at [15] (by decide +kernel) rfl ?_
        refine f_is 15 ?_
        refine f_s rfl rfl (xCx (t := 24) (i := i) (n := n) (v := r) (f := wtG q n f xv i) (f' := wtG q n f xv (i + 1)) rfl rfl rfl rfl hin hset.out (xCa.head.app X.bl)) (by
          intro p hp
          refine m1 _ _ ?_
          revert p
          exact (by repeat (first | exact xBk | refine xBf (by repeat (first | exact .head _ | with_reducible assumption | apply mC)) ?_))) ?_ f_nil
        refine f_end (by decide +kernel) (fun w hR => ?_)
        simp only [Exit.then, Exit.inBlock]
        refine k6 _ _ ?_
        go_wp2_with (first | (refine' xAb hR rfl rfl rfl ?_; clear hR; intro blk w hR) | (refine' xAa hR rfl rfl inferInstance ?_; clear hR; intro blk w hR) | (refine' aNq hR rfl rfl rfl ?_) | (refine' aOq hR rfl rfl rfl ?_) | (refine' aPq hR rfl rfl rfl ?_) | (refine' aWq hR rfl rfl rfl rfl ?_; clear hR; intro w hR) | (refine' aXq hR rfl rfl rfl rfl rfl ?_; clear hR; intro w hR) | fail)
        refine hK.out (i + 1) _ _ hi1.out hmu.out (xAr rfl rfl rfl) ?_
        rw [hE'.out]
        exact hR.weaken (List.sublist_append_right _ _)
end
end Go.Proofs.YtaaahfjpnggkbaaGreatDoor
namespace Go.Proofs.YtaaahfjpnggkbaaGreatDoor
open Go.RowKit
attribute [local irreducible] Calls Instr.build Instr.buildSlice Instr.makeSlice
section
variable {P : Program} {ops : Array Oper} {B0 : Nat} {w0 w : World} {L L' : List (Nat × Obj)} {r rest : List Oper} {o : Oper} {a : Act} {Q : Exit → Act → World → Prop} {Kp : List (Nat × Obj)} {v : Value}
theorem tl_y (hy : xBo P ops o v a (Rep B0 w0 L) (Rep B0 w0 L')) (hk : ∀ p, p ∈ Kp → p ∈ L') {a' : Act} (ha : a.put o.dst v = a') (h : tailM P ops (xCw B0 w0 Kp) Q r (Rep B0 w0 L') a') : tailM P ops (xCw B0 w0 Kp) Q (o :: r) (Rep B0 w0 L) a :=
  ⟨v, _, hy, ⟨L', rfl, hk⟩, by rw [ha]; exact h⟩
end
section
variable {ops : Array Oper} {B0 : Nat} {w0 w : World} {L L' : List (Nat × Obj)} {rest : List Oper} {o : Oper} {a : Act} {Q : Exit → Act → World → Prop}
theorem wpList_storeN (hR : Rep B0 w0 L w) (hg : o.guard = none) {x y : Operand} (hop : o.op = .store 24 x y) {b i n v : Nat} {f f' : Nat → Nat} {t : TypeId} (hx : a.eval x = .pointer (some ⟨b, i * 4, none⟩)) (hy : a.eval y = num v) (hi : i < n) (hf : ∀ j, j < n → f' j = if j = i then v else f j)
    (hs : xCa L b (.cells (xBu f n).toArray t) (.cells (xBu f' n).toArray t) L') (h : ∀ w', Rep B0 w0 L' w' → wpList Tryz.prog ops Q rest (a.put o.dst undef) w') : wpList Tryz.prog ops Q (o :: rest) a w :=
  wpList_plain hg fun _ hK => by
    obtain ⟨w', e, hR'⟩ := hR.storeRow (P := Tryz.prog) (ty := 24) (off := i * 4) (vs := nl v) rfl rfl hs (by rw [xBl, nl_len]; omega) (rowsN_set hi hf)
    unfold Oper.wp execOp
    simp only [hop, hx, hy, Instr.storeAt, Instr.sureAddr, Sem.run_bind, Sem.run_pure, Result.andThen_ok, e]
    exact hK _ _ (h _ hR')
theorem rowsN_row {f : Nat → Nat} {n j : Nat} (hj : j < n) : ((xBu f n).drop (j * 4)).take 4 = nl (f j) := by
  refine List.ext_getElem? fun k => ?_
  rw [List.getElem?_take]
  by_cases hk : k < 4
  · rw [if_pos hk, List.getElem?_drop, rowsN_at f n j k hj hk]
  · rw [if_neg hk]
    exact (List.getElem?_eq_none (by rw [nl_len]; omega)).symm
theorem rowsN_own {f : Nat → Nat} {n : Nat} (hn : n ≤ 1000000) : NOwn n (xBu f n) n f := ⟨Nat.le_refl _, by unfold maxLen; omega, xBl _ _, List.take_of_length_le (by rw [xBl]; exact Nat.le_refl _)⟩
end
noncomputable def lonF (q m : Nat) (P : Nat → Nat) (b j : Nat) : Nat := if j < m then subN (if j = 0 then 0 else P (j - 1)) (mulN (P j) b q) q else P (j - 1)
noncomputable def lonG (q m : Nat) (P : Nat → Nat) (b i j : Nat) : Nat := if j < i then lonF q m P b j else if j = i ∧ 0 < i then P (i - 1) else 0
section
variable {p q g h : Nat} {fb : Nat} {e : Int} {B0 : Nat} {w0 w : World} {L L' : List (Nat × Obj)} {a : Option Addr} {m cq : Nat} {P : Nat → Nat}
set_option maxRecDepth 100000 in
set_option maxHeartbeats 8000000 in
set_option maxRecDepth 100000 in
theorem longer_any {b : Nat} (h1 : 1 < q) (hq : q < B) (hb : b < q) (hP : ∀ j, j < m → P j < q) (hA : NAt B0 w0 L a m cq P) (hm : m ≤ 1000) (hm0 : 0 < m) (hfb : (fb, Obj.cells (pfl p q g h e).toArray 79) ∈ L) (hR : Rep B0 w0 L w) :
    Calls Tryz.prog 39 #[.pointer (some ⟨fb, 0, none⟩), .slice a m cq, num b] w fun en w' => ∃ gb, en = .returned (.slice (some ⟨gb, 0, none⟩) (m + 1) (m + 1)) ∧ Rep B0 w0 ((gb, .cells (xBu (lonF q m P b) (m + 1)).toArray 24) :: L) w' := by
  obtain ⟨m1, hm1⟩ : ∃ x, m + 1 = x := ⟨_, rfl⟩
  have f1 : IntKind.i64.wrap ((m : Int) + 1) = (m1 : Int) := by rw [IntKind.wrap_i64]; omega
  have hmk := make_numsZ m1 (by omega)
  rw [hm1]
  replace hA := Held.mk hA
  replace hP := Held.mk hP
  replace hm1 := Held.mk hm1
  replace hm0 := Held.mk hm0
  go_enter Tryz.func39, Tryz.ntmps39
  go_wp2_with (first | (refine' xAb hR rfl rfl rfl ?_; clear hR; intro blk w hR) | (refine' xAa hR rfl rfl inferInstance ?_; clear hR; intro blk w hR) | (refine' aNq hR rfl rfl rfl ?_) | (refine' aOq hR rfl rfl rfl ?_) | (refine' aPq hR rfl rfl rfl ?_) | (refine' aWq hR rfl rfl rfl rfl ?_; clear hR; intro w hR) | (refine' aXq hR rfl rfl rfl rfl rfl ?_; clear hR; intro w hR) | (refine' wpList_makeRep hR rfl rfl rfl rfl hmk ?_; clear hR; intro gb w hR))
  have e0 : xBu (fun _ => 0) m1 = xBu (lonG q m P b 0) m1 := xBq (fun j hj => by unfold lonG; rw [if_neg (by omega), if_neg (by omega)])
  rw [e0] at hR
  clear e0 hmk
  try simp only [Act.put, kA, kB, List.setIfInBounds_toArray]
  refine' xBm (false :: false :: false :: false :: false :: false :: false :: false :: true :: false :: false :: false :: false :: false :: false :: false :: true :: true :: true :: true :: true :: true :: true :: true :: true :: true :: true :: true :: true :: true :: true :: true :: true :: true :: true :: true :: true :: true :: true :: true :: true :: true :: true :: false :: []) (fun (i : Nat) l => l.set 15 (.int .i64 (i : Int))) (fun i => (gb, .cells (xBu (lonG q m P b i) m1).toArray 24) :: (blk, .cells (nl b).toArray 24) :: L) (fun i => m - i) (fun i => i ≤ m) 0 ?h0 ?hO ?hR ?hs
  case h0 => exact xAr rfl rfl rfl
  case hO => exact Nat.zero_le _
  case hR => exact hR
  case hs =>
    clear hR
    intro i tm w hi ht hR K hK
    have g0 : 0 ≤ (i : Int) := by omega
    by_cases hik : i = m
    · subst hik
      have t1 : ¬ (i : Int) < (i : Int) := by omega
      have e1 : xBu (lonG q i P b i) m1 = xBu (lonF q i P b) m1 := xBq fun j hj => by
        have h0 := hm0.out
        have h1 := hm1.out
        unfold lonG
        by_cases hji : j < i
        · rw [if_pos hji]
        · obtain rfl : j = i := by omega
          rw [if_neg hji, if_pos ⟨rfl, h0⟩]
          unfold lonF
          rw [if_neg hji]
      replace hR := (show Rep _ _ ((gb, .cells (xBu (lonG q i P b i) m1).toArray 24) :: _) _ from hR)
      rw [e1] at hR
      obtain ⟨rows, hrows⟩ : ∃ x, xBu (lonF q i P b) m1 = x := ⟨_, rfl⟩
      rw [hrows] at hR
      replace hrows := Held.mk hrows
      clear hK hi hA hP hm0 e1
      repeat (first | (obtain ⟨x, tm', e, ht'⟩ := xAg ht; clear ht; subst e; have ht := ht'; clear ht') | (obtain ⟨tm', e, ht'⟩ := xAd ht; clear ht; subst e; have ht := ht'; clear ht'))
      obtain rfl := xAn ht
      clear ht
      go_wp2_with (first | (refine' xAb hR rfl rfl rfl ?_; clear hR; intro blk w hR) | (refine' xAa hR rfl rfl inferInstance ?_; clear hR; intro blk w hR) | (refine' aNq hR rfl rfl rfl ?_) | (refine' aOq hR rfl rfl rfl ?_) | (refine' aPq hR rfl rfl rfl ?_) | (refine' aWq hR rfl rfl rfl rfl ?_; clear hR; intro w hR) | (refine' aXq hR rfl rfl rfl rfl rfl ?_; clear hR; intro w hR) | fail)
      go_ret
      exact ⟨gb, rfl, by rw [hrows.out]; exact hR.weaken ((List.sublist_cons_self _ _).cons_cons _)⟩
    · have hin : i < m := by omega
      have g1 : (i : Int) < (m : Int) := by omega
      have ei : IntKind.i64.wrap ((i : Int) + 1) = ((i + 1 : Nat) : Int) := by rw [IntKind.wrap_i64]; omega
      have hi1 : i + 1 ≤ m := by omega
      have hmu : m - (i + 1) < m - i := by omega
      have g2 : (i : Int) < (m1 : Int) := by have := hm1.out; omega
      have g3 : ((i + 1 : Nat) : Int) < (m1 : Int) := by have := hm1.out; omega
      have g3' : (i : Int) + 1 < (m1 : Int) := by have := hm1.out; omega
      have g4 : 0 ≤ ((i + 1 : Nat) : Int) := by omega
      have g4' : 0 ≤ (i : Int) + 1 := by omega
      have im1 : i < m1 := by have := hm1.out; omega
      have im2 : i + 1 < m1 := by have := hm1.out; omega
      obtain ⟨bb, off, rfl, hx⟩ := hA.out.at' (by omega)
      obtain ⟨y, hy⟩ : ∃ y, P i = y := ⟨_, rfl⟩
      have ly : y < q := by rw [← hy]; exact hP.out i hin
      have ld := fun (w : World) (hw : Rep B0 w0 L w) => xBr (hx w hw i hin)
      rw [hy] at ld
      obtain ⟨o, ho⟩ : ∃ o, lonG q m P b i i = o := ⟨_, rfl⟩
      have ho' : (if i = 0 then 0 else P (i - 1)) = o := by
        rw [← ho]
        unfold lonG
        rw [if_neg (Nat.lt_irrefl i)]
        by_cases h0 : i = 0
        · rw [if_pos h0, if_neg (by omega)]
        · rw [if_neg h0, if_pos ⟨rfl, by omega⟩]
      have lo : o < q := by
        rw [← ho']
        split
        · omega
        · exact hP.out (i - 1) (by omega)
      have row := rowsN_row (f := lonG q m P b i) im1
      rw [ho] at row
      obtain ⟨z, hz⟩ : ∃ z, mulN y b q = z := ⟨_, rfl⟩
      have lz : z < q := by rw [← hz]; exact mul_lt' h1 _ _
      obtain ⟨r, hr⟩ : ∃ r, subN o z q = r := ⟨_, rfl⟩
      have ct := fun (L' : List (Nat × Obj)) (w : World) (hmm : (fb, Obj.cells (pfl p q g h e).toArray 79) ∈ L') (hw : Rep B0 w0 L' w) => ftimes_ok h1 hq ly hb hz hmm hw
      have cl := fun (L' : List (Nat × Obj)) (w : World) (hmm : (fb, Obj.cells (pfl p q g h e).toArray 79) ∈ L') (hw : Rep B0 w0 L' w) => fless_ok h1 hq lo lz hr hmm hw
      obtain ⟨G1, hG1⟩ : ∃ G : Nat → Nat, G = fun j => if j = i then r else lonG q m P b i j := ⟨_, rfl⟩
      have hs1 : ∀ j, j < m1 → G1 j = if j = i then r else lonG q m P b i j := fun j _ => by rw [hG1]
      have hs2 : ∀ j, j < m1 → lonG q m P b (i + 1) j = if j = i + 1 then y else G1 j := fun j _ => by
        rw [hG1]
        unfold lonG
        by_cases h2 : j = i + 1
        · rw [if_pos h2, if_neg (by omega), if_pos ⟨h2, by omega⟩, Nat.add_sub_cancel, hy]
        · rw [if_neg h2]
          by_cases h3 : j = i
          · rw [h3, if_pos (by omega)]
            show lonF q m P b i = if i = i then r else _
            rw [if_pos rfl]
            unfold lonF
            rw [if_pos hin, hy, ho', hz, hr]
          · show _ = if j = i then r else _
            rw [if_neg h3]
            by_cases h4 : j < i
            · rw [if_pos (by omega), if_pos h4]
            · rw [if_neg (by omega), if_neg (by omega), if_neg h4, if_neg (by omega)]
      replace hi1 := Held.mk hi1
      replace hmu := Held.mk hmu
      replace hs1 := Held.mk hs1
      replace hs2 := Held.mk hs2
      replace ho := Held.mk ho
      replace im1 := Held.mk im1
      replace im2 := Held.mk im2
      have ldw := ld w hR.drop1.drop1
      clear hi hA hP hik hin hx hy ho' hz hr lo lz ly hm0 hG1
      repeat (first | (obtain ⟨x, tm', e, ht'⟩ := xAg ht; clear ht; subst e; have ht := ht'; clear ht') | (obtain ⟨tm', e, ht'⟩ := xAd ht; clear ht; subst e; have ht := ht'; clear ht'))
      obtain rfl := xAn ht
      clear ht
      go_wp2_with (first | (refine' xAb hR rfl rfl rfl ?_; clear hR; intro blk w hR) | (refine' xAa hR rfl rfl inferInstance ?_; clear hR; intro blk w hR) | (refine' aNq hR rfl rfl rfl ?_) | (refine' aOq hR rfl rfl rfl ?_) | (refine' aPq hR rfl rfl rfl ?_) | (refine' aWq hR rfl rfl rfl rfl ?_; clear hR; intro w hR) | (refine' aXq hR rfl rfl rfl rfl rfl ?_; clear hR; intro w hR) | fail)
      refine xAi hR [0, 0, 0, 0, 0, 0, 0, 0, 0, 0, 0, 0, 0, 0, 0, 0, 2] [] xBt (by kernel_rfl) rfl rfl (fun K hK => ?_)
      clear hR
      repeat ((first | (refine xBa ?_) | (refine' xAm (by decide) rfl (.inl rfl) rfl ?ha ?_) | (refine' xAm (by decide) rfl (.inr rfl) rfl ?ha ?_) | (refine' aQq rfl rfl rfl ?ha ?_) | (refine' aRq rfl rfl rfl ?ha ?_) | (refine' aSq rfl rfl rfl ?ha ?_) | (refine' aTq rfl rfl rfl ?ha ?_) | (refine' aUq rfl rfl rfl ?ha ?_) | ((first | refine' xAf (by decide) rfl rfl rfl rfl (fun w => ?hq) ?ha ?_ | refine' xAv (by decide) rfl rfl rfl rfl (fun w => ?hq) ?ha ?_ | refine' xAj (by decide) rfl rfl rfl (fun w => ?hq) ?ha ?_ | refine' xAe (by decide) rfl rfl rfl (fun w => ?hq) ?ha ?_ | refine' xAk (by decide) rfl rfl rfl (fun w => ?hq) ?ha ?_ | refine' xAu (by decide) rfl rfl rfl rfl (fun w => ?hq) ?ha ?_ | refine' xAt (by decide) rfl rfl rfl rfl rfl rfl (fun w => ?hq) ?ha ?_ | refine' xAs (by decide) rfl rfl (fun w => ?hq) ?ha ?_ | refine' xAl (by decide) rfl rfl rfl (fun w => ?hq) ?ha ?_ | refine' xAw (by decide) rfl rfl rfl (fun w => ?hq) ?ha ?_); (case hq => go_simp; try rfl)) | (refine' xAh (by decide) rfl rfl rfl ?ha ?_) | (refine' xBb (by decide) rfl rfl rfl rfl ?ha ?_) | (refine' xAz (by decide) rfl ?ha ?_) | (refine' xBn rfl rfl rfl (fun w hw => ld w hw.drop1.drop1) ?ha ?_; (case ha => simp only [kP, kQ, kA, kB]; try rfl)) | (refine' hd_callR rfl rfl rfl (xBc Tryz.func34 (by kernel_rfl) (by kernel_rfl) _) (fun w hw => ct _ w (.tail _ (.tail _ hfb)) hw) ?ha ?_) | (refine' hd_callR rfl rfl rfl (xBc Tryz.func128 (by kernel_rfl) (by kernel_rfl) _) (fun w hw => cl _ w (.tail _ (.tail _ hfb)) hw) ?ha ?_)); try (case ha => simp only [kP, kQ, kA, kB]; try rfl))
      refine xBg (hK _ _ ?_)
      clear hK K
      refine xBj (fun Q hQ => ?_)
      try simp only [List.nil_append, List.cons_append]
      try simp only [kP, kQ, kA, kB]
      refine tl_y (xCx (t := 24) (i := i) (n := m1) (v := r) (f := lonG q m P b i) (f' := G1) rfl rfl rfl rfl im1.out hs1.out xCa.head) (fun p hp => absurd hp List.not_mem_nil) rfl ?_
      refine xBi (fun w hR => hQ _ _ ?_)
      clear hQ Q
      go_wp2_with (first | (refine' xAb hR rfl rfl rfl ?_; clear hR; intro blk w hR) | (refine' xAa hR rfl rfl inferInstance ?_; clear hR; intro blk w hR) | (refine' aNq hR rfl rfl rfl ?_) | (refine' aOq hR rfl rfl rfl ?_) | (refine' aPq hR rfl rfl rfl ?_) | (refine' aWq hR rfl rfl rfl rfl ?_; clear hR; intro w hR) | (refine' aXq hR rfl rfl rfl rfl rfl ?_; clear hR; intro w hR) | (refine' xCf rfl rfl rfl (ld _ hR.drop1.drop1) ?_) | (refine' wpList_storeN (i := i + 1) (n := m1) hR rfl rfl rfl rfl im2.out hs2.out xCa.head ?_; clear hR; intro w hR))
      exact hK.out (i + 1) _ _ hi1.out hmu.out (xAr rfl rfl rfl) hR
end
end Go.Proofs.YtaaahfjpnggkbaaGreatDoor
