/- The walk of balefirelaw10.PolysBack. -/
import Derived.Test.YtgfoeongjhkdmaaJPAlive
import Derived.Test.YtgfoeongjhkdmaaJV
set_option linter.unusedVariables false
set_option linter.unusedSimpArgs false
namespace Go.Proofs.Ytgfoeongjhkdmaa
open Go.RowKit
attribute [local irreducible] Calls Instr.build Instr.buildSlice
def padN (k : Nat) (P : Nat → Nat) (j : Nat) : Nat := if j < k then P j else 0
theorem back_same {q n k : Nat} {f V P : Nat → Nat} (hok : ptsOK q n f) (hP : ∀ j, j < k → P j < q) (hkn : k ≤ n) (hV : ∀ j, j < n → V j = atN q P k (f j)) (hE : wtE q n f n = 0) : ∀ j, j < n → outF q n f V n j = padN k P j := fun j hj => by
  obtain ⟨_, _, h1, hf⟩ := hok
  haveI : NeZero q := ⟨by omega⟩
  have lp : ∀ j, padN k P j < q := fun j => by
    unfold padN
    split
    · rename_i hh; exact hP j hh
    · omega
  refine fi_inj (q := q) (outF_lt h1 n j) (lp j) ?_
  refine out_only h1 hf hE (fun t => fi q (padN k P t)) (fun i hi => ?_) j hj
  rw [hV i hi, fi_atN h1 hP, H_pad (m := k) n _ hkn (fun t h1 _ => by unfold padN; rw [if_neg (by omega), fi_zero])]
  exact H_congr (fun t ht => by unfold padN; rw [if_pos ht]) _
theorem wpList_build0 {P : Program} {ops : Array Oper} {rest : List Oper} {o : Oper} {a : Act} {w : World} {Q : Exit → Act → World → Prop} (hg : o.guard = none) {t : TypeId} (hop : o.op = .build t #[]) {v : Value}
    (hrun : ∀ w, (Instr.build t #[]).run P w = .ok v w) (h : wpList P ops Q rest (a.put o.dst v) w) : wpList P ops Q (o :: rest) a w :=
  wpList_plain hg fun _ hK => by
    unfold Oper.wp execOp
    simp only [hop, List.map_toArray, List.map_nil, hrun, Sem.run_bind, Result.andThen_ok, Sem.run_pure]
    exact hK _ _ h
theorem build_0 (w : World) : (Instr.build 24 #[]).run Try.prog w = .ok (.agg (nl 0).toArray) w := by
  rw [← nl_zero]
  kernel_rfl
theorem GrNOk.congr {x : GrN} {n : Nat} {f f' : Nat → Nat} (h : GrNOk x n f) (he : ∀ j, j < n → f j = f' j) : GrNOk x n f' := by
  rcases h with h | ⟨g, cur, h1, h2, h3, h4, h5, h6⟩
  · exact .inl h
  · exact .inr ⟨g, cur, h1, h2, h3, h4, h5, by rw [h6, xCe he]⟩
set_option maxRecDepth 100000 in
set_option maxHeartbeats 8000000 in
set_option maxRecDepth 100000 in
theorem polysback_walk (W : World) (p q g h : Nat) (hp : p < B) (hq : q < B) (hg : g < B) (hh : h < B) (a : Option Addr) (k cp : Nat) (P : Nat → Nat) (b : Option Addr) (n cq : Nat) (f : Nat → Nat) (S1 : NAt W.heap.size W [] a k cp P) (S2 : NAt W.heap.size W [] b n cq f) :
    Calls Try.prog 3 #[grp p q g h, .slice a k cp, .slice b n cq] W fun e w' => e = .returned (.bool true) ∧ Below W.heap.size W w' := by
  classical
  have hR := Rep.init W
  by_cases k20 : k ≤ 20
  case neg =>
    have t1 : (20 : Int) < (k : Int) := by omega
    clear S1 S2 hp hq hg hh k20
    go_enter Try.func3, Try.ntmps3
    go_wp2_with (first | (refine' xAb hR rfl rfl rfl ?_; clear hR; intro blk w hR) | (refine' xAa hR rfl rfl inferInstance ?_; clear hR; intro blk w hR) | (refine' aFq hR rfl rfl rfl inferInstance ?_) | (refine' aGq hR rfl rfl rfl inferInstance ?_) | (refine' aHq hR rfl rfl rfl inferInstance ?_) | (refine' aIq hR rfl rfl rfl inferInstance rfl ?_; clear hR; intro w hR) | (refine' aJq hR rfl rfl rfl inferInstance rfl rfl ?_; clear hR; intro w hR) | (go_at_call 9; refine (alive10 _).mono ?_; rintro e w ⟨rfl, hb⟩; replace hR := hR.call hb; clear hb))
    go_ret
    exact ⟨rfl, hR.below⟩
  have t1 : ¬ (20 : Int) < (k : Int) := by omega
  by_cases h20 : n ≤ 20
  case neg =>
    have t2 : (20 : Int) < (n : Int) := by omega
    clear S1 S2 hp hq hg hh h20 k20
    go_enter Try.func3, Try.ntmps3
    go_wp2_with (first | (refine' xAb hR rfl rfl rfl ?_; clear hR; intro blk w hR) | (refine' xAa hR rfl rfl inferInstance ?_; clear hR; intro blk w hR) | (refine' aFq hR rfl rfl rfl inferInstance ?_) | (refine' aGq hR rfl rfl rfl inferInstance ?_) | (refine' aHq hR rfl rfl rfl inferInstance ?_) | (refine' aIq hR rfl rfl rfl inferInstance rfl ?_; clear hR; intro w hR) | (refine' aJq hR rfl rfl rfl inferInstance rfl rfl ?_; clear hR; intro w hR) | (go_at_call 9; refine (alive10 _).mono ?_; rintro e w ⟨rfl, hb⟩; replace hR := hR.call hb; clear hb))
    go_ret
    exact ⟨rfl, hR.below⟩
  have t2 : ¬ (20 : Int) < (n : Int) := by omega
  by_cases hkn : k ≤ n
  case neg =>
    have t3 : (n : Int) < (k : Int) := by omega
    clear S1 S2 hp hq hg hh h20 k20 hkn
    go_enter Try.func3, Try.ntmps3
    go_wp2_with (first | (refine' xAb hR rfl rfl rfl ?_; clear hR; intro blk w hR) | (refine' xAa hR rfl rfl inferInstance ?_; clear hR; intro blk w hR) | (refine' aFq hR rfl rfl rfl inferInstance ?_) | (refine' aGq hR rfl rfl rfl inferInstance ?_) | (refine' aHq hR rfl rfl rfl inferInstance ?_) | (refine' aIq hR rfl rfl rfl inferInstance rfl ?_; clear hR; intro w hR) | (refine' aJq hR rfl rfl rfl inferInstance rfl rfl ?_; clear hR; intro w hR) | (go_at_call 9; refine (alive10 _).mono ?_; rintro e w ⟨rfl, hb⟩; replace hR := hR.call hb; clear hb))
    go_ret
    exact ⟨rfl, hR.below⟩
  have t3 : ¬ (n : Int) < (k : Int) := by omega
  replace S1 := Held.mk S1
  replace S2 := Held.mk S2
  have hm1 : n ≤ 1000 := by omega
  have hk1 : k ≤ 1000 := by omega
  replace hm1 := Held.mk hm1
  replace hk1 := Held.mk hk1
  replace hkn := Held.mk hkn
  clear hg hh h20 k20
  go_enter Try.func3, Try.ntmps3
  go_wp2_with (first | (refine' xAb hR rfl rfl rfl ?_; clear hR; intro blk w hR) | (refine' xAa hR rfl rfl inferInstance ?_; clear hR; intro blk w hR) | (refine' aFq hR rfl rfl rfl inferInstance ?_) | (refine' aGq hR rfl rfl rfl inferInstance ?_) | (refine' aHq hR rfl rfl rfl inferInstance ?_) | (refine' aIq hR rfl rfl rfl inferInstance rfl ?_; clear hR; intro w hR) | (refine' aJq hR rfl rfl rfl inferInstance rfl rfl ?_; clear hR; intro w hR) | (go_at_call 9; refine (alive10 _).mono ?_; rintro e w ⟨rfl, hb⟩; replace hR := hR.call hb; clear hb))
  obtain ⟨V, hVd⟩ : ∃ V : Nat → Nat, V = fun j => atN q P k (f j) := ⟨_, rfl⟩
  replace hVd := Held.mk hVd
  try simp only [Act.put, kA, kB, List.setIfInBounds_toArray]
  refine' xBx (false :: false :: false :: false :: false :: false :: false :: false :: false :: true :: true :: false :: false :: false :: false :: false :: false :: false :: false :: false :: false :: false :: false :: false :: false :: false :: false :: false :: false :: false :: false :: true :: true :: true :: true :: true :: true :: true :: true :: true :: true :: true :: true :: true :: true :: true :: true :: true :: true :: true :: true :: true :: true :: true :: true :: true :: false :: false :: false :: false :: false :: false :: false :: false :: false :: false :: false :: false :: false :: false :: false :: false :: false :: false :: false :: false :: false :: false :: false :: false :: false :: false :: false :: false :: false :: false :: false :: false :: false :: false :: []) (fun (x : Nat × GrN) l => (l.set 7 (.slice x.2.a x.1 x.2.cap)).set 8 (.int .i64 (x.1 : Int))) (fun x => (blk, .cells (gl p q g h).toArray 26) :: x.2.bl) (fun x => n - x.1) (fun x => x.1 ≤ n ∧ GrNOk x.2 x.1 V ∧ ∀ j, j < x.1 → okA q k P (f j)) (0, ⟨none, 0, []⟩) ?h0 ?hO ?hR ?hs
  case h0 => exact xBd rfl rfl rfl
  case hO => exact ⟨Nat.zero_le _, grN_zero _, fun j hj => absurd hj (Nat.not_lt_zero j)⟩
  case hR => exact hR
  case hs =>
    clear hR
    intro x tm w hO ht hR K hK
    obtain ⟨i, X0⟩ := x
    obtain ⟨hi, hx, hall⟩ := hO
    simp only at hi hx ht hR hall
    have g0 : 0 ≤ (i : Int) := by omega
    by_cases hik : i = n
    · subst hik
      clear hK
      have u1 : ¬ (i : Int) < (i : Int) := by omega
      have lV : ∀ j, j < i → V j < B := fun j hj => by rw [hVd.out]; exact Nat.lt_trans (atN_lt (hall j hj).1.1 _ _ _) hq
      have hVA : NAt W.heap.size W ((blk, .cells (gl p q g h).toArray 26) :: X0.bl) X0.a i X0.cap V := grN_nat hx lV (fun p hp => .tail _ hp)
      by_cases hok : okT q i i f V
      case neg =>
        have ct := fun (w : World) (hw : Rep W.heap.size W ((blk, .cells (gl p q g h).toArray 26) :: X0.bl) w) => through_no (g := g) (h := h) hp hq hm1.out hm1.out (S2.out.any (L := (blk, .cells (gl p q g h).toArray 26) :: X0.bl)) hVA hok hw
        by_cases i0 : i = 0
        case pos =>
          subst i0
          clear S1 S2 hall hok hVA lV hVd hx
          repeat (first | (obtain ⟨x, tm', e, ht'⟩ := xAr ht; clear ht; subst e; have ht := ht'; clear ht') | (obtain ⟨tm', e, ht'⟩ := xAp ht; clear ht; subst e; have ht := ht'; clear ht'))
          obtain rfl := xAu ht
          clear ht
          go_wp2_with (first | (refine' xAb hR rfl rfl rfl ?_; clear hR; intro blk w hR) | (refine' xAa hR rfl rfl inferInstance ?_; clear hR; intro blk w hR) | (refine' aFq hR rfl rfl rfl inferInstance ?_) | (refine' aGq hR rfl rfl rfl inferInstance ?_) | (refine' aHq hR rfl rfl rfl inferInstance ?_) | (refine' aIq hR rfl rfl rfl inferInstance rfl ?_; clear hR; intro w hR) | (refine' aJq hR rfl rfl rfl inferInstance rfl rfl ?_; clear hR; intro w hR) | (go_at_call 11; refine (ct _ hR).mono ?_; clear hR; rintro e w ⟨rfl, hR⟩))
          go_ret
          exact ⟨rfl, hR.below⟩
        case neg =>
          have z1 : ((i : Int) == 0) = false := by simp; omega
          have z2 : ¬ (i : Int) = 0 := by omega
          clear S1 S2 hall hok hVA lV hVd hx
          repeat (first | (obtain ⟨x, tm', e, ht'⟩ := xAr ht; clear ht; subst e; have ht := ht'; clear ht') | (obtain ⟨tm', e, ht'⟩ := xAp ht; clear ht; subst e; have ht := ht'; clear ht'))
          obtain rfl := xAu ht
          clear ht
          go_wp2_with (first | (refine' xAb hR rfl rfl rfl ?_; clear hR; intro blk w hR) | (refine' xAa hR rfl rfl inferInstance ?_; clear hR; intro blk w hR) | (refine' aFq hR rfl rfl rfl inferInstance ?_) | (refine' aGq hR rfl rfl rfl inferInstance ?_) | (refine' aHq hR rfl rfl rfl inferInstance ?_) | (refine' aIq hR rfl rfl rfl inferInstance rfl ?_; clear hR; intro w hR) | (refine' aJq hR rfl rfl rfl inferInstance rfl rfl ?_; clear hR; intro w hR) | (go_at_call 11; refine (ct _ hR).mono ?_; clear hR; rintro e w ⟨rfl, hR⟩))
          go_ret
          exact ⟨rfl, hR.below⟩
      have i0 : 0 < i := hok.1.1
      have z1 : ((i : Int) == 0) = false := by simp; omega
      have z2 : ¬ (i : Int) = 0 := by omega
      by_cases hE : wtE q i f i = 0
      case neg =>
        have ct := fun (w : World) (hw : Rep W.heap.size W ((blk, .cells (gl p q g h).toArray 26) :: X0.bl) w) => through_err (g := g) (h := h) hp hq hm1.out (S2.out.any (L := (blk, .cells (gl p q g h).toArray 26) :: X0.bl)) hVA hok hE hw
        clear S1 S2 hall hok hVA lV hVd hx i0 hE
        repeat (first | (obtain ⟨x, tm', e, ht'⟩ := xAr ht; clear ht; subst e; have ht := ht'; clear ht') | (obtain ⟨tm', e, ht'⟩ := xAp ht; clear ht; subst e; have ht := ht'; clear ht'))
        obtain rfl := xAu ht
        clear ht
        go_wp2_with (first | (refine' xAb hR rfl rfl rfl ?_; clear hR; intro blk w hR) | (refine' xAa hR rfl rfl inferInstance ?_; clear hR; intro blk w hR) | (refine' aFq hR rfl rfl rfl inferInstance ?_) | (refine' aGq hR rfl rfl rfl inferInstance ?_) | (refine' aHq hR rfl rfl rfl inferInstance ?_) | (refine' aIq hR rfl rfl rfl inferInstance rfl ?_; clear hR; intro w hR) | (refine' aJq hR rfl rfl rfl inferInstance rfl rfl ?_; clear hR; intro w hR) | (go_at_call 11; refine (ct _ hR).mono ?_; clear hR; rintro e w ⟨rfl, hR⟩))
        go_ret
        exact ⟨rfl, hR.below⟩
      have ct := fun (w : World) (hw : Rep W.heap.size W ((blk, .cells (gl p q g h).toArray 26) :: X0.bl) w) => through_yes (g := g) (h := h) hp hq hm1.out (S2.out.any (L := (blk, .cells (gl p q g h).toArray 26) :: X0.bl)) hVA hok hE hw
      have hL1 : 1 < q := hok.1.2.2.1
      have hsame := back_same (V := V) (k := k) (P := P) hok.1 (fun j hj => (hall 0 i0).1.2 j hj) hkn.out (fun j hj => by rw [hVd.out]) hE
      have lout : ∀ j, outF q i f V i j < q := fun j => outF_lt hL1 i j
      have S1L := fun (L : List (Nat × Obj)) => S1.out.any (L := L)
      have hk2 := hk1.out
      replace hsame := Held.mk hsame
      replace lout := Held.mk lout
      replace hL1 := Held.mk hL1
      clear hall hok hVA lV hVd hE i0 S2 S1
      repeat (first | (obtain ⟨x, tm', e, ht'⟩ := xAr ht; clear ht; subst e; have ht := ht'; clear ht') | (obtain ⟨tm', e, ht'⟩ := xAp ht; clear ht; subst e; have ht := ht'; clear ht'))
      obtain rfl := xAu ht
      clear ht
      go_wp2_with (first | (refine' xAb hR rfl rfl rfl ?_; clear hR; intro blk w hR) | (refine' xAa hR rfl rfl inferInstance ?_; clear hR; intro blk w hR) | (refine' aFq hR rfl rfl rfl inferInstance ?_) | (refine' aGq hR rfl rfl rfl inferInstance ?_) | (refine' aHq hR rfl rfl rfl inferInstance ?_) | (refine' aIq hR rfl rfl rfl inferInstance rfl ?_; clear hR; intro w hR) | (refine' aJq hR rfl rfl rfl inferInstance rfl rfl ?_; clear hR; intro w hR) | (go_at_call 11; refine (ct _ hR).mono ?_; clear hR ct; rintro e w ⟨gb, rfl, cur, ho, hR⟩; replace ho := Held.mk ho) | (refine' wpList_appendAllN hR rfl rfl rfl rfl (S1L _) hk2 ?_; clear hR; intro Y w hY hR))
      have hY2 : GrNOk Y k (padN k P) := hY.congr fun j hj => by unfold padN; rw [if_pos hj]
      clear hY hx S1L hk2 z1 z2
      try simp only [Act.put, kA, kB, List.setIfInBounds_toArray]
      refine' xBx (false :: false :: false :: false :: false :: false :: false :: false :: false :: false :: false :: false :: false :: false :: false :: false :: false :: false :: false :: false :: false :: false :: false :: false :: false :: false :: false :: false :: false :: false :: false :: false :: false :: false :: false :: false :: false :: false :: false :: false :: false :: false :: false :: false :: false :: false :: false :: false :: false :: false :: false :: false :: false :: false :: false :: false :: false :: false :: false :: false :: false :: false :: false :: false :: false :: false :: false :: false :: false :: false :: false :: false :: false :: false :: false :: false :: false :: false :: true :: true :: true :: true :: true :: true :: true :: true :: true :: false :: false :: false :: []) (fun (x : Nat × GrN) l => l.set 13 (.slice x.2.a x.1 x.2.cap)) (fun x => x.2.bl ++ ((gb, .cells cur.toArray 24) :: (blk, .cells (gl p q g h).toArray 26) :: X0.bl)) (fun x => i - x.1) (fun x => k ≤ x.1 ∧ x.1 ≤ i ∧ GrNOk x.2 x.1 (padN k P)) (k, Y) ?q0 ?qO ?qR ?qs
      case q0 => exact xBd rfl rfl rfl
      case qO => exact ⟨Nat.le_refl _, hkn.out, hY2⟩
      case qR => exact hR
      case qs =>
        clear hR hY2
        intro x tm w hO ht hR K2 hK2
        obtain ⟨j, Y2⟩ := x
        obtain ⟨hkj, hji, hY⟩ := hO
        simp only at hkj hji hY ht hR
        have cY := grN_cap hY
        have j0 : 0 ≤ (j : Int) := by omega
        by_cases hj : j = i
        · subst hj
          have v1 : ¬ (j : Int) < (j : Int) := by omega
          have lp : ∀ t, t < j → padN k P t < B := fun t ht => by rw [← hsame.out t ht]; exact Nat.lt_trans (lout.out t) hq
          have cs : ∀ w, Rep W.heap.size W (Y2.bl ++ ((gb, .cells cur.toArray 24) :: (blk, .cells (gl p q g h).toArray 26) :: X0.bl)) w → Calls Try.prog 12 #[.slice (some ⟨gb, 0, none⟩) j j, .slice Y2.a j Y2.cap] w fun e w' => e = .returned (.bool true) ∧ Rep W.heap.size W (Y2.bl ++ ((gb, .cells cur.toArray 24) :: (blk, .cells (gl p q g h).toArray 26) :: X0.bl)) w' := fun w hw =>
            same_nums (ho.out.at (B0 := W.heap.size) (w0 := W) (List.mem_append_right _ (.head _)) (Nat.le_refl _) fun t _ => Nat.lt_trans (lout.out t) hq) (grN_nat hY lp (fun p hp => List.mem_append_left _ hp)) hm1.out true ⟨fun _ => ⟨rfl, hsame.out⟩, fun _ => rfl⟩ hw
          clear hK2 hsame lout
          repeat (first | (obtain ⟨x, tm', e, ht'⟩ := xAr ht; clear ht; subst e; have ht := ht'; clear ht') | (obtain ⟨tm', e, ht'⟩ := xAp ht; clear ht; subst e; have ht := ht'; clear ht'))
          obtain rfl := xAu ht
          clear ht
          go_wp2_with (first | (refine' xAb hR rfl rfl rfl ?_; clear hR; intro blk w hR) | (refine' xAa hR rfl rfl inferInstance ?_; clear hR; intro blk w hR) | (refine' aFq hR rfl rfl rfl inferInstance ?_) | (refine' aGq hR rfl rfl rfl inferInstance ?_) | (refine' aHq hR rfl rfl rfl inferInstance ?_) | (refine' aIq hR rfl rfl rfl inferInstance rfl ?_; clear hR; intro w hR) | (refine' aJq hR rfl rfl rfl inferInstance rfl rfl ?_; clear hR; intro w hR) | (go_at_call 12; refine (cs _ hR).mono ?_; clear hR; rintro e w ⟨rfl, hR⟩))
          go_ret
          exact ⟨rfl, hR.below⟩
        · have v1 : (j : Int) < (i : Int) := by omega
          have hj1 : j + 1 ≤ i := by omega
          have hkj1 : k ≤ j + 1 := by omega
          have hmu : i - (j + 1) < i - j := by omega
          have ep : padN k P j = 0 := by unfold padN; rw [if_neg (by omega)]
          have hbig : j ≤ 1000000 := by have := hm1.out; omega
          replace hj1 := Held.mk hj1
          replace hkj1 := Held.mk hkj1
          replace hmu := Held.mk hmu
          replace ep := Held.mk ep
          clear hkj hji hj
          repeat (first | (obtain ⟨x, tm', e, ht'⟩ := xAr ht; clear ht; subst e; have ht := ht'; clear ht') | (obtain ⟨tm', e, ht'⟩ := xAp ht; clear ht; subst e; have ht := ht'; clear ht'))
          obtain rfl := xAu ht
          clear ht
          go_wp2_with (first | (refine' xAb hR rfl rfl rfl ?_; clear hR; intro blk w hR) | (refine' xAa hR rfl rfl inferInstance ?_; clear hR; intro blk w hR) | (refine' aFq hR rfl rfl rfl inferInstance ?_) | (refine' aGq hR rfl rfl rfl inferInstance ?_) | (refine' aHq hR rfl rfl rfl inferInstance ?_) | (refine' aIq hR rfl rfl rfl inferInstance rfl ?_; clear hR; intro w hR) | (refine' aJq hR rfl rfl rfl inferInstance rfl rfl ?_; clear hR; intro w hR) | (refine' wpList_build0 rfl rfl build_0 ?_) | (refine' wpList_new hR (isNew_nums1 rfl rfl rfl) ?_; clear hR; intro bt w hR) | (refine' xCn (L' := fun l => l ++ ((gb, .cells cur.toArray 24) :: (blk, .cells (gl p q g h).toArray 26) :: X0.bl)) hR (fun l => List.Perm.refl _) rfl rfl rfl rfl hY ep.out hbig ?_; clear hR hY; intro Y3 w hY hR))
          exact hK2.out (j + 1, Y3) _ _ ⟨hkj1.out, hj1.out, hY⟩ hmu.out (xBd rfl rfl rfl) hR
    have g1 : (i : Int) < (n : Int) := by omega
    have hin : i < n := by omega
    have ei : IntKind.i64.wrap ((i : Int) + 1) = ((i + 1 : Nat) : Int) := by rw [IntKind.wrap_i64]; omega
    have hi1 : i + 1 ≤ n := by omega
    have hmu : n - (i + 1) < n - i := by omega
    have hbig : i ≤ 1000000 := by omega
    have ek : ((i + 1 : Nat) : Int) = (i : Int) + 1 := by omega
    replace ek := Held.mk ek
    replace hi1 := Held.mk hi1
    replace hmu := Held.mk hmu
    obtain ⟨rv, er, hcase, cA⟩ : ∃ (rv : Nat) (er : Int), ((V i = rv ∧ er = 0 ∧ ∀ j, j < i + 1 → okA q k P (f j)) ∨ er = 1) ∧ ∀ (L : List (Nat × Obj)) (w : World), Rep W.heap.size W L w → Calls Try.prog 10 #[grp p q g h, .slice a k cp, num (f i)] w fun e w' => e = .returned (.tuple #[num rv, .int .i64 er]) ∧ Rep W.heap.size W L w' := by
      by_cases hok : okA q k P (f i)
      · exact ⟨_, 0, .inl ⟨by rw [hVd.out], rfl, fun j hj => by
          by_cases e : j = i
          · rw [e]; exact hok
          · exact hall j (by omega)⟩, fun L w hw => at_yes (g := g) (h := h) hp hq hk1.out (S1.out.any (L := L)) hok hw⟩
      · exact ⟨0, 1, .inr rfl, fun L w hw => at_no (g := g) (h := h) hp hq (S2.out.lt i hin) hk1.out (S1.out.any (L := L)) hok hw⟩
    obtain ⟨bv, ov, rfl, hyv⟩ := S2.out.at' (by omega)
    have ldf := fun (L : List (Nat × Obj)) (w : World) (hw : Rep W.heap.size W L w) => xCh (hyv w (hw.weaken (List.nil_sublist _)) i hin)
    generalize f i = xv at cA ldf
    replace hcase := Held.mk hcase
    clear hyv hi hik hall
    repeat (first | (obtain ⟨x, tm', e, ht'⟩ := xAr ht; clear ht; subst e; have ht := ht'; clear ht') | (obtain ⟨tm', e, ht'⟩ := xAp ht; clear ht; subst e; have ht := ht'; clear ht'))
    obtain rfl := xAu ht
    clear ht
    go_wp2_with (first | (refine' xAb hR rfl rfl rfl ?_; clear hR; intro blk w hR) | (refine' xAa hR rfl rfl inferInstance ?_; clear hR; intro blk w hR) | (refine' aFq hR rfl rfl rfl inferInstance ?_) | (refine' aGq hR rfl rfl rfl inferInstance ?_) | (refine' aHq hR rfl rfl rfl inferInstance ?_) | (refine' aIq hR rfl rfl rfl inferInstance rfl ?_; clear hR; intro w hR) | (refine' aJq hR rfl rfl rfl inferInstance rfl rfl ?_; clear hR; intro w hR) | fail)
    try simp only [Act.put, kA, kB, List.setIfInBounds_toArray]
    refine cut_code (fun l tm w' => ∃ c, agree (false :: false :: false :: false :: false :: false :: false :: false :: false :: false :: false :: false :: false :: false :: false :: false :: false :: false :: false :: false :: false :: false :: false :: false :: false :: false :: false :: false :: false :: false :: false :: false :: false :: false :: false :: false :: false :: false :: false :: false :: true :: true :: true :: true :: true :: true :: true :: true :: true :: true :: false :: false :: false :: false :: false :: false :: false :: false :: false :: false :: false :: false :: false :: false :: false :: false :: false :: false :: false :: false :: false :: false :: false :: false :: false :: false :: false :: false :: false :: false :: false :: false :: false :: false :: false :: false :: false :: false :: false :: false :: []) ((l.set 9 (.pointer (some ⟨c, 0, none⟩))).set 10 (.int .i64 er)) tm ∧ Rep W.heap.size W ((c, .cells (nl rv).toArray 24) :: (blk, .cells (gl p q g h).toArray 26) :: X0.bl) w') ?r1 ?r2
    case r1 =>
      intro Q' hQ'
      refine xBy hR 13 xCo rfl ?_
      clear hR
      refine xCi [(blk, .cells (gl p q g h).toArray 26)] [1, 1, 1, 1, 1, 1, 2, 2, 2, 2, 2, 2, 2] 7 rfl (by repeat (first | exact xAk | refine xAc (by repeat (first | exact .head _ | with_reducible assumption | apply mC)) ?_)) (by repeat (first | exact xAk | refine xAc (by repeat (first | exact .head _ | with_reducible assumption | apply mC)) ?_)) rfl (by decide +kernel) (fun K hK => ?_)
      repeat ((first | (refine' xCm rfl rfl rfl inferInstance ?hm ?hn ?ha ?_; (case hm => exact .head _); (case hn => rfl)) | (refine' hd_loadKP rfl rfl rfl ldf ?ha ?_) | (refine xBj ?_) | (refine' xAq (by decide) rfl (.inl rfl) rfl ?ha ?_) | (refine' xAq (by decide) rfl (.inr rfl) rfl ?ha ?_) | (refine' xAm rfl rfl rfl inferInstance ?hm ?hn ?ha ?_; (case hm => first | with_reducible assumption | repeat (first | exact .head _ | with_reducible assumption | apply mC)); (case hn => first | rfl | simp)) | (refine' xAi rfl rfl rfl inferInstance ?hm ?hv ?hn ?ha ?_; (case hm => first | with_reducible assumption | repeat (first | exact .head _ | with_reducible assumption | apply mC)); (case hv => first | with_reducible assumption | (simp only [kC, kD, kE, kF]; try rfl)); (case hn => first | rfl | simp)) | (refine' xAg rfl rfl rfl inferInstance ?hm ?hv ?ha ?_; (case hm => first | with_reducible assumption | repeat (first | exact .head _ | with_reducible assumption | apply mC)); (case hv => first | rfl | with_reducible assumption)) | (refine' xAj rfl rfl rfl inferInstance ?hm ?hv ?hn ?ha ?_; (case hm => first | with_reducible assumption | repeat (first | exact .head _ | with_reducible assumption | apply mC)); (case hv => first | with_reducible assumption | (simp only [kC, kD, kE, kF]; try rfl)); (case hn => first | rfl | simp)) | (refine' xAh rfl rfl rfl inferInstance ?hm ?hv ?ha ?_; (case hm => first | with_reducible assumption | repeat (first | exact .head _ | with_reducible assumption | apply mC)); (case hv => first | rfl | with_reducible assumption)) | ((first | refine' xAe (by decide) rfl rfl rfl rfl (fun w => ?hq) ?ha ?_ | refine' xAx (by decide) rfl rfl rfl rfl (fun w => ?hq) ?ha ?_ | refine' xAn (by decide) rfl rfl rfl (fun w => ?hq) ?ha ?_ | refine' xAd (by decide) rfl rfl rfl (fun w => ?hq) ?ha ?_ | refine' xAl (by decide) rfl rfl rfl (fun w => ?hq) ?ha ?_ | refine' xAz (by decide) rfl rfl rfl rfl (fun w => ?hq) ?ha ?_ | refine' xAw (by decide) rfl rfl rfl rfl rfl rfl (fun w => ?hq) ?ha ?_ | refine' xAy (by decide) rfl rfl (fun w => ?hq) ?ha ?_ | refine' xAo (by decide) rfl rfl rfl (fun w => ?hq) ?ha ?_ | refine' xBa (by decide) rfl rfl rfl (fun w => ?hq) ?ha ?_); (case hq => go_simp; try rfl)) | (refine' xAf (by decide) rfl rfl rfl ?ha ?_) | (refine' xBh (by decide) rfl rfl rfl rfl ?ha ?_) | (refine' xBi (by decide) rfl ?ha ?_)); try (case ha => simp only [kP, kQ, kA, kB]; try rfl))
      refine xBo (hK _ _ ?_)
      clear hK K
      try simp only [Act.put, kA, kB, List.setIfInBounds_toArray]
      refine f_at [6, 10] (by decide +kernel) rfl ?_
      refine f_is 6 ?_
      refine f_y rfl rfl (xBv rfl rfl rfl (xBl Try.func10 (by kernel_rfl) (by kernel_rfl) _) (fun w hw => cA _ _ hw)) (by repeat (first | exact xAk | refine xAc (by repeat (first | exact .head _ | with_reducible assumption | apply mC)) ?_)) ?_ ?_
      · simp only [Act.put, kA, kB, List.setIfInBounds_toArray]
        (refine xCi [(blk, .cells (gl p q g h).toArray 26)] [2, 2, 2, 2, 2, 2, 2, 1, 1, 1, 2, 2, 2] 3 rfl (by repeat (first | exact xAk | refine xAc (by repeat (first | exact .head _ | with_reducible assumption | apply mC)) ?_)) (by repeat (first | exact xAk | refine xAc (by repeat (first | exact .head _ | with_reducible assumption | apply mC)) ?_)) rfl (by decide +kernel) (fun K hK => ?_); (repeat ((first | (refine xBj ?_) | (refine' xAq (by decide) rfl (.inl rfl) rfl ?ha ?_) | (refine' xAq (by decide) rfl (.inr rfl) rfl ?ha ?_) | (refine' xAm rfl rfl rfl inferInstance ?hm ?hn ?ha ?_; (case hm => first | with_reducible assumption | repeat (first | exact .head _ | with_reducible assumption | apply mC)); (case hn => first | rfl | simp)) | (refine' xAi rfl rfl rfl inferInstance ?hm ?hv ?hn ?ha ?_; (case hm => first | with_reducible assumption | repeat (first | exact .head _ | with_reducible assumption | apply mC)); (case hv => first | with_reducible assumption | (simp only [kC, kD, kE, kF]; try rfl)); (case hn => first | rfl | simp)) | (refine' xAg rfl rfl rfl inferInstance ?hm ?hv ?ha ?_; (case hm => first | with_reducible assumption | repeat (first | exact .head _ | with_reducible assumption | apply mC)); (case hv => first | rfl | with_reducible assumption)) | (refine' xAj rfl rfl rfl inferInstance ?hm ?hv ?hn ?ha ?_; (case hm => first | with_reducible assumption | repeat (first | exact .head _ | with_reducible assumption | apply mC)); (case hv => first | with_reducible assumption | (simp only [kC, kD, kE, kF]; try rfl)); (case hn => first | rfl | simp)) | (refine' xAh rfl rfl rfl inferInstance ?hm ?hv ?ha ?_; (case hm => first | with_reducible assumption | repeat (first | exact .head _ | with_reducible assumption | apply mC)); (case hv => first | rfl | with_reducible assumption)) | ((first | refine' xAe (by decide) rfl rfl rfl rfl (fun w => ?hq) ?ha ?_ | refine' xAx (by decide) rfl rfl rfl rfl (fun w => ?hq) ?ha ?_ | refine' xAn (by decide) rfl rfl rfl (fun w => ?hq) ?ha ?_ | refine' xAd (by decide) rfl rfl rfl (fun w => ?hq) ?ha ?_ | refine' xAl (by decide) rfl rfl rfl (fun w => ?hq) ?ha ?_ | refine' xAz (by decide) rfl rfl rfl rfl (fun w => ?hq) ?ha ?_ | refine' xAw (by decide) rfl rfl rfl rfl rfl rfl (fun w => ?hq) ?ha ?_ | refine' xAy (by decide) rfl rfl (fun w => ?hq) ?ha ?_ | refine' xAo (by decide) rfl rfl rfl (fun w => ?hq) ?ha ?_ | refine' xBa (by decide) rfl rfl rfl (fun w => ?hq) ?ha ?_); (case hq => go_simp; try rfl)) | (refine' xAf (by decide) rfl rfl rfl ?ha ?_) | (refine' xBh (by decide) rfl rfl rfl rfl ?ha ?_) | (refine' xBi (by decide) rfl ?ha ?_) | fail); try (case ha => simp only [kP, kQ, kA, kB]; try rfl))); refine xBo (hK _ _ ?_); clear hK K)
        try simp only [Act.put, kA, kB, List.setIfInBounds_toArray]
        refine f_at [10] (by decide +kernel) rfl ?_
        refine f_is 10 ?_
        refine f_new rfl rfl (xCj rfl rfl) (by repeat (first | exact xAk | refine xAc (by repeat (first | exact .head _ | with_reducible assumption | apply mC)) ?_)) (fun c => ?_) xCd
        simp only [Act.put, kA, kB, List.setIfInBounds_toArray]
        refine f_at [11] (by decide +kernel) rfl ?_
        refine f_is 11 ?_
        refine' f_s rfl rfl (xBw (l := [.int .u64 0, .int .u64 0, .int .u64 0, .int .u64 0]) rfl rfl rfl inferInstance rfl rfl rfl rfl ?hs) ?hk ?_ xCd
        (case hs => repeat (first | exact xAv.head | with_reducible assumption | apply xAv.tail))
        (case hk => repeat (first | exact xAk | refine xAc (by repeat (first | exact .head _ | with_reducible assumption | apply mC)) ?_))
        refine f_at [12] (by decide +kernel) rfl ?_
        refine f_is 12 ?_
        refine f_y rfl rfl (xBg rfl (.inl rfl) rfl) (by repeat (first | exact xAk | refine xAc (by repeat (first | exact .head _ | with_reducible assumption | apply mC)) ?_)) ?_ xCd
        simp only [Act.put, kA, kB, List.setIfInBounds_toArray]
        refine f_end (by decide +kernel) (fun w hR => ?_)
        simp only [Exit.then]
        exact hQ'.out _ _ ⟨c, xBd rfl rfl rfl, hR⟩
      · refine f_is 10 ?_
        refine f_new rfl rfl (xCj rfl rfl) (by repeat (first | exact xAk | refine xAc (by repeat (first | exact .head _ | with_reducible assumption | apply mC)) ?_)) (fun c => ?_) xCd
        simp only [Act.put, kA, kB, List.setIfInBounds_toArray]
        refine f_at [6] (by decide +kernel) rfl ?_
        refine f_is 6 ?_
        refine f_y rfl rfl (xBv rfl rfl rfl (xBl Try.func10 (by kernel_rfl) (by kernel_rfl) _) (fun w hw => cA _ _ hw)) (by repeat (first | exact xAk | refine xAc (by repeat (first | exact .head _ | with_reducible assumption | apply mC)) ?_)) ?_ xCd
        simp only [Act.put, kA, kB, List.setIfInBounds_toArray]
        (refine xCi [(blk, .cells (gl p q g h).toArray 26)] [2, 2, 2, 2, 2, 2, 2, 1, 1, 1, 2, 2, 2] 2 rfl (by repeat (first | exact xAk | refine xAc (by repeat (first | exact .head _ | with_reducible assumption | apply mC)) ?_)) (by repeat (first | exact xAk | refine xAc (by repeat (first | exact .head _ | with_reducible assumption | apply mC)) ?_)) rfl (by decide +kernel) (fun K hK => ?_); (repeat ((first | (refine xBj ?_) | (refine' xAq (by decide) rfl (.inl rfl) rfl ?ha ?_) | (refine' xAq (by decide) rfl (.inr rfl) rfl ?ha ?_) | (refine' xAm rfl rfl rfl inferInstance ?hm ?hn ?ha ?_; (case hm => first | with_reducible assumption | repeat (first | exact .head _ | with_reducible assumption | apply mC)); (case hn => first | rfl | simp)) | (refine' xAi rfl rfl rfl inferInstance ?hm ?hv ?hn ?ha ?_; (case hm => first | with_reducible assumption | repeat (first | exact .head _ | with_reducible assumption | apply mC)); (case hv => first | with_reducible assumption | (simp only [kC, kD, kE, kF]; try rfl)); (case hn => first | rfl | simp)) | (refine' xAg rfl rfl rfl inferInstance ?hm ?hv ?ha ?_; (case hm => first | with_reducible assumption | repeat (first | exact .head _ | with_reducible assumption | apply mC)); (case hv => first | rfl | with_reducible assumption)) | (refine' xAj rfl rfl rfl inferInstance ?hm ?hv ?hn ?ha ?_; (case hm => first | with_reducible assumption | repeat (first | exact .head _ | with_reducible assumption | apply mC)); (case hv => first | with_reducible assumption | (simp only [kC, kD, kE, kF]; try rfl)); (case hn => first | rfl | simp)) | (refine' xAh rfl rfl rfl inferInstance ?hm ?hv ?ha ?_; (case hm => first | with_reducible assumption | repeat (first | exact .head _ | with_reducible assumption | apply mC)); (case hv => first | rfl | with_reducible assumption)) | ((first | refine' xAe (by decide) rfl rfl rfl rfl (fun w => ?hq) ?ha ?_ | refine' xAx (by decide) rfl rfl rfl rfl (fun w => ?hq) ?ha ?_ | refine' xAn (by decide) rfl rfl rfl (fun w => ?hq) ?ha ?_ | refine' xAd (by decide) rfl rfl rfl (fun w => ?hq) ?ha ?_ | refine' xAl (by decide) rfl rfl rfl (fun w => ?hq) ?ha ?_ | refine' xAz (by decide) rfl rfl rfl rfl (fun w => ?hq) ?ha ?_ | refine' xAw (by decide) rfl rfl rfl rfl rfl rfl (fun w => ?hq) ?ha ?_ | refine' xAy (by decide) rfl rfl (fun w => ?hq) ?ha ?_ | refine' xAo (by decide) rfl rfl rfl (fun w => ?hq) ?ha ?_ | refine' xBa (by decide) rfl rfl rfl (fun w => ?hq) ?ha ?_); (case hq => go_simp; try rfl)) | (refine' xAf (by decide) rfl rfl rfl ?ha ?_) | (refine' xBh (by decide) rfl rfl rfl rfl ?ha ?_) | (refine' xBi (by decide) rfl ?ha ?_) | fail); try (case ha => simp only [kP, kQ, kA, kB]; try rfl))); refine xBo (hK _ _ ?_); clear hK K)
        try simp only [Act.put, kA, kB, List.setIfInBounds_toArray]
        refine f_at [11] (by decide +kernel) rfl ?_
        refine f_is 11 ?_
        refine' f_s rfl rfl (xBw (l := [.int .u64 0, .int .u64 0, .int .u64 0, .int .u64 0]) rfl rfl rfl inferInstance rfl rfl rfl rfl ?hs) ?hk ?_ xCd
        (case hs => repeat (first | exact xAv.head | with_reducible assumption | apply xAv.tail))
        (case hk => repeat (first | exact xAk | refine xAc (by repeat (first | exact .head _ | with_reducible assumption | apply mC)) ?_))
        refine f_at [12] (by decide +kernel) rfl ?_
        refine f_is 12 ?_
        refine f_y rfl rfl (xBg rfl (.inl rfl) rfl) (by repeat (first | exact xAk | refine xAc (by repeat (first | exact .head _ | with_reducible assumption | apply mC)) ?_)) ?_ xCd
        simp only [Act.put, kA, kB, List.setIfInBounds_toArray]
        refine f_end (by decide +kernel) (fun w hR => ?_)
        simp only [Exit.then]
        exact hQ'.out _ _ ⟨c, xBd rfl rfl rfl, hR⟩
    case r2 =>
      clear hR
      rename_i K5 k5
      rintro tm w ⟨c, ht, hR⟩
      repeat (first | (obtain ⟨x, tm', e, ht'⟩ := xAr ht; clear ht; subst e; have ht := ht'; clear ht') | (obtain ⟨tm', e, ht'⟩ := xAp ht; clear ht; subst e; have ht := ht'; clear ht'))
      obtain rfl := xAu ht
      clear ht
      simp only [Exit.then]
      refine k5 _ _ ?_
      clear cA ldf
      rcases hcase.out with ⟨hv, rfl, hnext⟩ | rfl
      · replace hv := Held.mk hv
        replace hnext := Held.mk hnext
        go_wp2_with (first | (refine' xAb hR rfl rfl rfl ?_; clear hR; intro blk w hR) | (refine' xAa hR rfl rfl inferInstance ?_; clear hR; intro blk w hR) | (refine' aFq hR rfl rfl rfl inferInstance ?_) | (refine' aGq hR rfl rfl rfl inferInstance ?_) | (refine' aHq hR rfl rfl rfl inferInstance ?_) | (refine' aIq hR rfl rfl rfl inferInstance rfl ?_; clear hR; intro w hR) | (refine' aJq hR rfl rfl rfl inferInstance rfl rfl ?_; clear hR; intro w hR) | (refine' wpList_new hR (isNew_nums1 rfl rfl rfl) ?_; clear hR; intro bt w hR) | (refine' xCn (L' := fun l => (c, .cells (nl rv).toArray 24) :: (blk, .cells (gl p q g h).toArray 26) :: l) hR (fun l => List.perm_append_comm (l₁ := [_, _])) rfl rfl rfl rfl hx hv.out hbig ?_; clear hR hx; intro X1 w hx hR))
        refine hK.out (i + 1, X1) _ _ ⟨hi1.out, hx, hnext.out⟩ hmu.out (by simp only [ek.out]; exact xBd rfl rfl rfl) ?_
        exact hR.drop1
      · go_wp2_with (first | (refine' xAb hR rfl rfl rfl ?_; clear hR; intro blk w hR) | (refine' xAa hR rfl rfl inferInstance ?_; clear hR; intro blk w hR) | (refine' aFq hR rfl rfl rfl inferInstance ?_) | (refine' aGq hR rfl rfl rfl inferInstance ?_) | (refine' aHq hR rfl rfl rfl inferInstance ?_) | (refine' aIq hR rfl rfl rfl inferInstance rfl ?_; clear hR; intro w hR) | (refine' aJq hR rfl rfl rfl inferInstance rfl rfl ?_; clear hR; intro w hR) | fail)
        go_ret
        exact ⟨rfl, hR.below⟩
end Go.Proofs.Ytgfoeongjhkdmaa
