/- The walk of balefirelaw10.PolysSums. Printed by mksums.py. -/
import Derived.Test.YtgfoeongjhkdmaaJPAlive
import Derived.Test.YtgfoeongjhkdmaaJPAppF
import Derived.Test.YtgfoeongjhkdmaaJM
set_option linter.unusedVariables false
set_option linter.unusedSimpArgs false
namespace Go.Proofs.Ytgfoeongjhkdmaa
open Go.RowKit
attribute [local irreducible] Calls Instr.build Instr.buildSlice
set_option maxRecDepth 100000 in
set_option maxHeartbeats 8000000 in
set_option maxRecDepth 100000 in
theorem polyssums_walk (W : World) (p q g h : Nat) (hp : p < B) (hq : q < B) (hg : g < B) (hh : h < B) (a : Option Addr) (n cp : Nat) (f : Nat → Nat) (b : Option Addr) (m cq : Nat) (f2 : Nat → Nat) (xv c : Nat) (S1 : NAt W.heap.size W [] a n cp f) (S2 : NAt W.heap.size W [] b m cq f2) (hx : xv < B) (hc : c < B) :
    Calls Try.prog 4 #[grp p q g h, .agg #[.slice a n cp, .slice b m cq], num2 xv c] W fun e w' => e = .returned (.bool true) ∧ Below W.heap.size W w' := by
  classical
  have hR := Rep.init W
  have r0 : ((nl2 xv c).drop 0).take 4 = nl xv := rfl
  have r1 : ((nl2 xv c).drop 4).take 4 = nl c := rfl
  by_cases h20 : n ≤ 20
  case neg =>
    have t1 : (20 : Int) < (n : Int) := by omega
    clear S1 S2 hp hq hg hh hx hc h20
    go_enter Try.func4, Try.ntmps4
    go_wp2_with (first | go_skip | (refine' xAb hR rfl rfl rfl ?_; clear hR; intro blk w hR) | (refine' xAa hR rfl rfl inferInstance ?_; clear hR; intro blk w hR) | (refine' aFq hR rfl rfl rfl inferInstance ?_) | (refine' aGq hR rfl rfl rfl inferInstance ?_) | (refine' aHq hR rfl rfl rfl inferInstance ?_) | (refine' aIq hR rfl rfl rfl inferInstance rfl ?_; clear hR; intro w hR) | (refine' aJq hR rfl rfl rfl inferInstance rfl rfl ?_; clear hR; intro w hR) | (refine' xBk hR rfl rfl rfl inferInstance ?hm ?hn ?_; (case hm => first | with_reducible assumption | repeat (first | exact .head _ | with_reducible assumption | apply mC)); (case hn => first | rfl | simp)) | (refine' xBe hR rfl rfl rfl inferInstance ?hm ?hv ?_; (case hm => first | with_reducible assumption | repeat (first | exact .head _ | with_reducible assumption | apply mC)); (case hv => first | rfl | with_reducible assumption)) | (refine' xBp hR rfl rfl rfl inferInstance ?hm ?hv ?hn ?_; (case hm => first | with_reducible assumption | repeat (first | exact .head _ | with_reducible assumption | apply mC)); (case hv => first | with_reducible assumption | (simp only [kC, kD, kE, kF]; try rfl)); (case hn => first | rfl | simp)) | (go_at_call 9; refine (alive10 _).mono ?_; rintro e w ⟨rfl, hb⟩; replace hR := hR.call hb; clear hb))
    go_ret
    exact ⟨rfl, hR.below⟩
  have t1 : ¬ (20 : Int) < (n : Int) := by omega
  have t1d : decide ((20 : Int) < (n : Int)) = false := decide_eq_false t1
  by_cases hmn : m = n
  case neg =>
    have e1 : ¬ (n : Int) = (m : Int) := by omega
    have e2 : ((n : Int) == (m : Int)) = false := by simp; omega
    have e3 : ((n : Int) != (m : Int)) = true := by simp; omega
    clear S1 S2 hp hq hg hh hx hc h20 hmn
    go_enter Try.func4, Try.ntmps4
    go_wp2_with (first | go_skip | (refine' xAb hR rfl rfl rfl ?_; clear hR; intro blk w hR) | (refine' xAa hR rfl rfl inferInstance ?_; clear hR; intro blk w hR) | (refine' aFq hR rfl rfl rfl inferInstance ?_) | (refine' aGq hR rfl rfl rfl inferInstance ?_) | (refine' aHq hR rfl rfl rfl inferInstance ?_) | (refine' aIq hR rfl rfl rfl inferInstance rfl ?_; clear hR; intro w hR) | (refine' aJq hR rfl rfl rfl inferInstance rfl rfl ?_; clear hR; intro w hR) | (refine' xBk hR rfl rfl rfl inferInstance ?hm ?hn ?_; (case hm => first | with_reducible assumption | repeat (first | exact .head _ | with_reducible assumption | apply mC)); (case hn => first | rfl | simp)) | (refine' xBe hR rfl rfl rfl inferInstance ?hm ?hv ?_; (case hm => first | with_reducible assumption | repeat (first | exact .head _ | with_reducible assumption | apply mC)); (case hv => first | rfl | with_reducible assumption)) | (refine' xBp hR rfl rfl rfl inferInstance ?hm ?hv ?hn ?_; (case hm => first | with_reducible assumption | repeat (first | exact .head _ | with_reducible assumption | apply mC)); (case hv => first | with_reducible assumption | (simp only [kC, kD, kE, kF]; try rfl)); (case hn => first | rfl | simp)) | (go_at_call 9; refine (alive10 _).mono ?_; rintro e w ⟨rfl, hb⟩; replace hR := hR.call hb; clear hb))
    go_ret
    exact ⟨rfl, hR.below⟩
  subst hmn
  obtain ⟨n, hnm⟩ : ∃ n, m = n := ⟨_, rfl⟩
  rw [hnm] at S1 S2 h20 t1 t1d
  rw [hnm]
  clear hnm m
  have hm1 : n ≤ 1000 := by omega
  have hm9 : n ≤ 999 := by omega
  replace hm9 := Held.mk hm9
  obtain ⟨av, ea, hA, cA⟩ : ∃ (av : Nat) (ea : Int), ((okA q n f xv ∧ ea = 0 ∧ av = atN q f n xv) ∨ ea = 1) ∧ ∀ (L : List (Nat × Obj)) (w : World), Rep W.heap.size W L w → Calls Try.prog 10 #[grp p q g h, .slice a n cp, num xv] w fun e w' => e = .returned (.tuple #[num av, .int .i64 ea]) ∧ Rep W.heap.size W L w' := by
    by_cases hok : okA q n f xv
    · exact ⟨_, 0, .inl ⟨hok, rfl, rfl⟩, fun L w hw => at_yes (g := g) (h := h) hp hq hm1 (S1.any (L := L)) hok hw⟩
    · exact ⟨0, 1, .inr rfl, fun L w hw => at_no (g := g) (h := h) hp hq hx hm1 (S1.any (L := L)) hok hw⟩
  obtain ⟨bv, eb, hB, cB⟩ : ∃ (bv : Nat) (eb : Int), ((okA q n f2 xv ∧ eb = 0 ∧ bv = atN q f2 n xv) ∨ eb = 1) ∧ ∀ (L : List (Nat × Obj)) (w : World), Rep W.heap.size W L w → Calls Try.prog 10 #[grp p q g h, .slice b n cq, num xv] w fun e w' => e = .returned (.tuple #[num bv, .int .i64 eb]) ∧ Rep W.heap.size W L w' := by
    by_cases hok : okA q n f2 xv
    · exact ⟨_, 0, .inl ⟨hok, rfl, rfl⟩, fun L w hw => at_yes (g := g) (h := h) hp hq hm1 (S2.any (L := L)) hok hw⟩
    · exact ⟨0, 1, .inr rfl, fun L w hw => at_no (g := g) (h := h) hp hq hx hm1 (S2.any (L := L)) hok hw⟩
  have hbad : (ea = 0 ∧ eb = 1) ∨ (ea = 1 ∧ eb = 0) ∨ (ea = 1 ∧ eb = 1) ∨ ((okA q n f xv ∧ ea = 0 ∧ av = atN q f n xv) ∧ (okA q n f2 xv ∧ eb = 0 ∧ bv = atN q f2 n xv)) := by
    rcases hA with h1 | h1 <;> rcases hB with h2 | h2
    · exact .inr (.inr (.inr ⟨h1, h2⟩))
    · exact .inl ⟨h1.2.1, h2⟩
    · exact .inr (.inl ⟨h1, h2.2.1⟩)
    · exact .inr (.inr (.inl ⟨h1, h2⟩))
  clear hA hB
  have e1 : ((n : Int) != (n : Int)) = false := by simp
  rcases hbad with ⟨rfl, rfl⟩ | ⟨rfl, rfl⟩ | ⟨rfl, rfl⟩ | ⟨⟨hok1, rfl, hav⟩, hok2, rfl, hbv⟩
  iterate 3
    clear S1 S2 hp hq hg hh hx hc h20 hm1
    go_enter Try.func4, Try.ntmps4
    go_wp2_with (first | go_skip | (refine' xAb hR rfl rfl rfl ?_; clear hR; intro blk w hR) | (refine' xAa hR rfl rfl inferInstance ?_; clear hR; intro blk w hR) | (refine' aFq hR rfl rfl rfl inferInstance ?_) | (refine' aGq hR rfl rfl rfl inferInstance ?_) | (refine' aHq hR rfl rfl rfl inferInstance ?_) | (refine' aIq hR rfl rfl rfl inferInstance rfl ?_; clear hR; intro w hR) | (refine' aJq hR rfl rfl rfl inferInstance rfl rfl ?_; clear hR; intro w hR) | (refine' xBk hR rfl rfl rfl inferInstance ?hm ?hn ?_; (case hm => first | with_reducible assumption | repeat (first | exact .head _ | with_reducible assumption | apply mC)); (case hn => first | rfl | simp)) | (refine' xBe hR rfl rfl rfl inferInstance ?hm ?hv ?_; (case hm => first | with_reducible assumption | repeat (first | exact .head _ | with_reducible assumption | apply mC)); (case hv => first | rfl | with_reducible assumption)) | (refine' xBp hR rfl rfl rfl inferInstance ?hm ?hv ?hn ?_; (case hm => first | with_reducible assumption | repeat (first | exact .head _ | with_reducible assumption | apply mC)); (case hv => first | with_reducible assumption | (simp only [kC, kD, kE, kF]; try rfl)); (case hn => first | rfl | simp)) | (go_at_call 9; refine (alive10 _).mono ?_; rintro e w ⟨rfl, hb⟩; replace hR := hR.call hb; clear hb) | (go_at_call 10; refine (cA _ _ hR).mono ?_; clear hR; rintro e w ⟨rfl, hR⟩) | (go_at_call 10; refine (cB _ _ hR).mono ?_; clear hR; rintro e w ⟨rfl, hR⟩))
    go_ret
    exact ⟨rfl, hR.below⟩
  obtain ⟨⟨h1, hf⟩, hxq⟩ := hok1
  obtain ⟨⟨-, hf2⟩, -⟩ := hok2
  have la : av < q := by rw [hav]; exact atN_lt h1 _ _ _
  have lb : bv < q := by rw [hbv]; exact atN_lt h1 _ _ _
  have cO := so_lit (p := p) (g := g) (h := h) (n := 1) (r := powS q xv 0) hq (by decide) (by decide) rfl
  have e0 : powS q xv 0 = powS q xv 0 := rfl
  generalize hpw0 : powS q xv 0 = pw0 at cO
  replace S1 := Held.mk S1
  replace S2 := Held.mk S2
  replace hf := Held.mk hf
  replace hf2 := Held.mk hf2
  replace h1 := Held.mk h1
  replace hm1 := Held.mk hm1
  replace hxq := Held.mk hxq
  replace hav := Held.mk hav
  replace hbv := Held.mk hbv
  replace la := Held.mk la
  replace lb := Held.mk lb
  replace hpw0 := Held.mk hpw0
  clear hg hh h20 e0
  go_enter Try.func4, Try.ntmps4
  go_wp2_with (first | go_skip | (refine' xAb hR rfl rfl rfl ?_; clear hR; intro blk w hR) | (refine' xAa hR rfl rfl inferInstance ?_; clear hR; intro blk w hR) | (refine' aFq hR rfl rfl rfl inferInstance ?_) | (refine' aGq hR rfl rfl rfl inferInstance ?_) | (refine' aHq hR rfl rfl rfl inferInstance ?_) | (refine' aIq hR rfl rfl rfl inferInstance rfl ?_; clear hR; intro w hR) | (refine' aJq hR rfl rfl rfl inferInstance rfl rfl ?_; clear hR; intro w hR) | (refine' xBk hR rfl rfl rfl inferInstance ?hm ?hn ?_; (case hm => first | with_reducible assumption | repeat (first | exact .head _ | with_reducible assumption | apply mC)); (case hn => first | rfl | simp)) | (refine' xBe hR rfl rfl rfl inferInstance ?hm ?hv ?_; (case hm => first | with_reducible assumption | repeat (first | exact .head _ | with_reducible assumption | apply mC)); (case hv => first | rfl | with_reducible assumption)) | (refine' xBp hR rfl rfl rfl inferInstance ?hm ?hv ?hn ?_; (case hm => first | with_reducible assumption | repeat (first | exact .head _ | with_reducible assumption | apply mC)); (case hv => first | with_reducible assumption | (simp only [kC, kD, kE, kF]; try rfl)); (case hn => first | rfl | simp)) | (go_at_call 9; refine (alive10 _).mono ?_; rintro e w ⟨rfl, hb⟩; replace hR := hR.call hb; clear hb) | (go_at_call 10; refine (cA _ _ hR).mono ?_; clear hR; rintro e w ⟨rfl, hR⟩) | (go_at_call 10; refine (cB _ _ hR).mono ?_; clear hR; rintro e w ⟨rfl, hR⟩) | (go_at_call 13; refine (cO _).mono ?_; rintro e w ⟨rfl, hb⟩; replace hR := hR.call hb; clear hb))
  clear cA cB cO t1 t1d e1
  obtain ⟨b13, hb_⟩ : ∃ y, y = blk := ⟨_, rfl⟩
  subst hb_
  obtain ⟨b9, hb_⟩ : ∃ y, y = blk := ⟨_, rfl⟩
  subst hb_
  obtain ⟨b7, hb_⟩ : ∃ y, y = blk := ⟨_, rfl⟩
  subst hb_
  obtain ⟨b5, hb_⟩ : ∃ y, y = blk := ⟨_, rfl⟩
  subst hb_
  obtain ⟨b4, hb_⟩ : ∃ y, y = blk := ⟨_, rfl⟩
  subst hb_
  obtain ⟨b3, hb_⟩ : ∃ y, y = blk := ⟨_, rfl⟩
  subst hb_
  rw [← hpw0.out] at hR
  clear hpw0
  try simp only [Act.put, kA, kB, List.setIfInBounds_toArray]
  refine' xBx (false :: false :: false :: false :: false :: false :: false :: false :: false :: false :: false :: false :: false :: false :: false :: true :: true :: true :: true :: false :: false :: false :: false :: false :: false :: false :: false :: false :: false :: false :: false :: false :: false :: false :: false :: false :: false :: false :: false :: false :: false :: false :: false :: false :: false :: false :: false :: false :: false :: false :: false :: false :: false :: false :: false :: false :: false :: false :: false :: false :: false :: false :: false :: false :: false :: false :: false :: false :: false :: false :: false :: false :: false :: false :: false :: false :: false :: false :: false :: false :: false :: false :: false :: true :: true :: true :: true :: true :: true :: true :: true :: true :: true :: true :: true :: true :: true :: true :: true :: true :: true :: true :: true :: true :: true :: true :: true :: true :: true :: true :: true :: true :: true :: true :: true :: true :: true :: true :: true :: true :: true :: true :: true :: true :: true :: true :: true :: true :: true :: true :: true :: true :: true :: true :: true :: true :: true :: true :: true :: true :: true :: true :: true :: true :: true :: false :: false :: false :: false :: false :: false :: false :: false :: false :: false :: false :: false :: false :: false :: false :: false :: false :: false :: false :: false :: false :: false :: false :: false :: false :: false :: false :: false :: false :: false :: false :: false :: false :: false :: false :: false :: false :: false :: false :: false :: false :: false :: false :: false :: false :: false :: false :: false :: false :: false :: false :: false :: false :: false :: false :: false :: false :: false :: false :: false :: false :: false :: false :: false :: false :: false :: false :: false :: false :: false :: false :: false :: false :: false :: false :: false :: false :: false :: false :: false :: false :: false :: false :: false :: false :: false :: false :: false :: false :: false :: false :: false :: false :: false :: false :: false :: false :: false :: false :: []) (fun (v : Nat × GrN × GrN) l => ((l.set 11 (.slice v.2.1.a v.1 v.2.1.cap)).set 12 (.slice v.2.2.a v.1 v.2.2.cap)).set 14 (.int .i64 (v.1 : Int))) (fun v => (b13, .cells (nl (powS q xv v.1)).toArray 24) :: (b9, .cells (nl bv).toArray 24) :: (b7, .cells (nl av).toArray 24) :: (b5, .cells (nl2 xv c).toArray 37) :: (b4, .cells [.slice a n cp, .slice b n cq].toArray 36) :: (b3, .cells (gl p q g h).toArray 26) :: (v.2.1.bl ++ v.2.2.bl)) (fun v => n - v.1) (fun v => v.1 ≤ n ∧ GrNOk v.2.1 v.1 (fun j => (f j + f2 j) % q) ∧ GrNOk v.2.2 v.1 (fun j => mulN (f j) c q) ∧ (c < q ∨ v.1 = 0)) (0, ⟨none, 0, []⟩, ⟨none, 0, []⟩) ?h0 ?hO ?hR ?hs
  case h0 => exact xBd rfl rfl rfl
  case hO => exact ⟨Nat.zero_le _, grN_zero _, grN_zero _, .inr rfl⟩
  case hR => exact hR
  case hs =>
    clear hR
    intro v tm w hO ht hR K hK
    obtain ⟨i, X0, Y0⟩ := v
    obtain ⟨hi, hX, hY, hcz⟩ := hO
    simp only at hi hX hY hcz ht hR
    have g0 : 0 ≤ (i : Int) := by omega
    obtain ⟨pw, hpw⟩ : ∃ v, powS q xv i = v := ⟨_, rfl⟩
    have lpw : pw < q := by rw [← hpw]; exact powS_lt h1.out xv i
    rw [hpw] at hR
    by_cases hik : i = n
    · subst hik
      clear hK
      have u1 : ¬ (i : Int) < (i : Int) := by omega
      have hq1 := h1.out
      obtain ⟨sv, hsv⟩ : ∃ v, (av + bv) % q = v := ⟨_, rfl⟩
      have esv : atN q (fun j => (f j + f2 j) % q) i xv = sv := by rw [sums_add hq1 hf.out hf2.out, ← hav.out, ← hbv.out, hsv]
      obtain ⟨tv, htv⟩ : ∃ v, atN q (fun j => mulN (f j) c q) i xv = v := ⟨_, rfl⟩
      have memX : ∀ (M : List (Nat × Obj)), ∀ p', p' ∈ X0.bl → p' ∈ M ++ ((b13, .cells (nl pw).toArray 24) :: (b9, .cells (nl bv).toArray 24) :: (b7, .cells (nl av).toArray 24) :: (b5, .cells (nl2 xv c).toArray 37) :: (b4, .cells [.slice a i cp, .slice b i cq].toArray 36) :: (b3, .cells (gl p q g h).toArray 26) :: (X0.bl ++ Y0.bl)) := fun M p' hp' => List.mem_append_right _ (.tail _ (.tail _ (.tail _ (.tail _ (.tail _ (.tail _ (List.mem_append_left _ hp')))))))
      have memY : ∀ (M : List (Nat × Obj)), ∀ p', p' ∈ Y0.bl → p' ∈ M ++ ((b13, .cells (nl pw).toArray 24) :: (b9, .cells (nl bv).toArray 24) :: (b7, .cells (nl av).toArray 24) :: (b5, .cells (nl2 xv c).toArray 37) :: (b4, .cells [.slice a i cp, .slice b i cq].toArray 36) :: (b3, .cells (gl p q g h).toArray 26) :: (X0.bl ++ Y0.bl)) := fun M p' hp' => List.mem_append_right _ (.tail _ (.tail _ (.tail _ (.tail _ (.tail _ (.tail _ (List.mem_append_right _ hp')))))))
      have wS : ∀ (M : List (Nat × Obj)) (w : World), Rep W.heap.size W (M ++ ((b13, .cells (nl pw).toArray 24) :: (b9, .cells (nl bv).toArray 24) :: (b7, .cells (nl av).toArray 24) :: (b5, .cells (nl2 xv c).toArray 37) :: (b4, .cells [.slice a i cp, .slice b i cq].toArray 36) :: (b3, .cells (gl p q g h).toArray 26) :: (X0.bl ++ Y0.bl))) w → Calls Try.prog 10 #[grp p q g h, .slice X0.a i X0.cap, num xv] w fun en w' => en = .returned (.tuple #[num sv, .int .i64 0]) ∧ Rep W.heap.size W (M ++ ((b13, .cells (nl pw).toArray 24) :: (b9, .cells (nl bv).toArray 24) :: (b7, .cells (nl av).toArray 24) :: (b5, .cells (nl2 xv c).toArray 37) :: (b4, .cells [.slice a i cp, .slice b i cq].toArray 36) :: (b3, .cells (gl p q g h).toArray 26) :: (X0.bl ++ Y0.bl))) w' := fun M w hw => by
        have := at_yes (g := g) (h := h) hp hq hm1.out (grN_nat hX (fun j _ => Nat.lt_trans (Nat.mod_lt _ (by omega)) hq) (memX M)) (⟨⟨hq1, fun j _ => Nat.mod_lt _ (by omega)⟩, hxq.out⟩ : okA q i (fun j => (f j + f2 j) % q) xv) hw
        rw [esv] at this
        exact this
      have wT : ∀ (M : List (Nat × Obj)) (w : World), Rep W.heap.size W (M ++ ((b13, .cells (nl pw).toArray 24) :: (b9, .cells (nl bv).toArray 24) :: (b7, .cells (nl av).toArray 24) :: (b5, .cells (nl2 xv c).toArray 37) :: (b4, .cells [.slice a i cp, .slice b i cq].toArray 36) :: (b3, .cells (gl p q g h).toArray 26) :: (X0.bl ++ Y0.bl))) w → Calls Try.prog 10 #[grp p q g h, .slice Y0.a i Y0.cap, num xv] w fun en w' => en = .returned (.tuple #[num tv, .int .i64 0]) ∧ Rep W.heap.size W (M ++ ((b13, .cells (nl pw).toArray 24) :: (b9, .cells (nl bv).toArray 24) :: (b7, .cells (nl av).toArray 24) :: (b5, .cells (nl2 xv c).toArray 37) :: (b4, .cells [.slice a i cp, .slice b i cq].toArray 36) :: (b3, .cells (gl p q g h).toArray 26) :: (X0.bl ++ Y0.bl))) w' := fun M w hw => by
        have := at_yes (g := g) (h := h) hp hq hm1.out (grN_nat hY (fun j _ => Nat.lt_trans (mul_lt' hq1 _ _) hq) (memY M)) (⟨⟨hq1, fun j _ => mul_lt' hq1 _ _⟩, hxq.out⟩ : okA q i (fun j => mulN (f j) c q) xv) hw
        rw [htv] at this
        exact this
      have cSum := SA (p := p) (g := g) (h := h) hq hq1 la.out lb.out hsv
      have eqs : eqN sv sv = true := eqN_yes rfl
      obtain ⟨dv, je, hdj⟩ : ∃ (dv : Nat) (je : Int), (c < q ∧ dv = atN q (endN i f c) (i + 1) xv ∧ je = 0) ∨ (¬ c < q ∧ dv = 0 ∧ je = 1) := by
        by_cases hcq : c < q
        · exact ⟨_, _, .inl ⟨hcq, rfl, rfl⟩⟩
        · exact ⟨_, _, .inr ⟨hcq, rfl, rfl⟩⟩
      have lend : ∀ j, j < i + 1 → endN i f c j < B := fun j hj => by
        unfold endN
        split
        · rename_i hh; exact Nat.lt_trans (hf.out j hh) hq
        · exact hc
      have cD : ∀ (L : List (Nat × Obj)) (w : World) (Z : GrN), GrNOk Z (i + 1) (endN i f c) → (∀ p', p' ∈ Z.bl → p' ∈ L) → Rep W.heap.size W L w → Calls Try.prog 10 #[grp p q g h, .slice Z.a (i + 1 : Nat) Z.cap, num xv] w fun en w' => en = .returned (.tuple #[num dv, .int .i64 je]) ∧ Rep W.heap.size W L w' := fun L w Z hZ hm hw => by
        have hm2 : i + 1 ≤ 1000 := by have := hm9.out; omega
        rcases hdj with ⟨hcq, rfl, rfl⟩ | ⟨hcq, rfl, rfl⟩
        · refine at_yes (g := g) (h := h) hp hq hm2 (grN_nat hZ lend hm) ⟨⟨hq1, fun j hj => ?_⟩, hxq.out⟩ hw
          unfold endN
          split
          · rename_i hh; exact hf.out j hh
          · exact hcq
        · refine at_no (g := g) (h := h) hp hq hx hm2 (grN_nat hZ lend hm) (fun hok => hcq ?_) hw
          have := hok.1.2 i (Nat.lt_succ_self i)
          unfold endN at this
          rw [if_neg (Nat.lt_irrefl i)] at this
          exact this
      have hZ1 : ∀ (Z : GrN), GrNOk Z i f → GrNOk Z i (endN i f c) := fun Z hZ => by
        refine grN_congr hZ fun j hj => ?_
        unfold endN
        rw [if_pos hj]
      have hvZ : endN i f c i = c := by unfold endN; rw [if_neg (Nat.lt_irrefl i)]
      have hk2 : i ≤ 1000000 := by have := hm1.out; omega
      have hk3 : i ≤ 1000 := hm1.out
      obtain ⟨lv, ke, hlk⟩ : ∃ (lv : Nat) (ke : Int), (c < q ∧ lv = mulN c pw q ∧ ke = 0) ∨ (¬ c < q ∧ lv = 0 ∧ ke = 1) := by
        by_cases hcq : c < q
        · exact ⟨_, _, .inl ⟨hcq, rfl, rfl⟩⟩
        · exact ⟨_, _, .inr ⟨hcq, rfl, rfl⟩⟩
      have cL : ∀ w, Calls Try.prog 15 #[grp p q g h, num c, num pw] w fun e w' => e = .returned (.tuple #[num lv, .int .i64 ke]) ∧ Below w.heap.size w w' := by
        rcases hlk with ⟨hcq, rfl, rfl⟩ | ⟨hcq, rfl, rfl⟩
        · exact smul_lit (p := p) (g := g) (h := h) hc (Nat.lt_trans lpw hq) hq (if_pos ⟨hq1, hcq, lpw⟩) (if_pos ⟨hq1, hcq, lpw⟩)
        · exact smul_lit (p := p) (g := g) (h := h) hc (Nat.lt_trans lpw hq) hq (if_neg fun hh => hcq hh.2.1) (if_neg fun hh => hcq hh.2.1)
      replace lend := Held.mk lend
      replace esv := Held.mk esv
      replace htv := Held.mk htv
      replace hsv := Held.mk hsv
      replace hdj := Held.mk hdj
      replace hlk := Held.mk hlk
      replace hvZ := Held.mk hvZ
      replace hpw := Held.mk hpw
      replace lpw := Held.mk lpw
      clear hq1 memX memY hX hY hi hcz S2
      repeat (first | (obtain ⟨x, tm', e, ht'⟩ := xAr ht; clear ht; subst e; have ht := ht'; clear ht') | (obtain ⟨tm', e, ht'⟩ := xAp ht; clear ht; subst e; have ht := ht'; clear ht'))
      obtain rfl := xAu ht
      clear ht
      go_wp2_with (first | go_skip | (refine' xAb hR rfl rfl rfl ?_; clear hR; intro blk w hR) | (refine' xAa hR rfl rfl inferInstance ?_; clear hR; intro blk w hR) | (refine' aFq hR rfl rfl rfl inferInstance ?_) | (refine' aGq hR rfl rfl rfl inferInstance ?_) | (refine' aHq hR rfl rfl rfl inferInstance ?_) | (refine' aIq hR rfl rfl rfl inferInstance rfl ?_; clear hR; intro w hR) | (refine' aJq hR rfl rfl rfl inferInstance rfl rfl ?_; clear hR; intro w hR) | (refine' xBk hR rfl rfl rfl inferInstance ?hm ?hn ?_; (case hm => first | with_reducible assumption | repeat (first | exact .head _ | with_reducible assumption | apply mC)); (case hn => first | rfl | simp)) | (refine' xBe hR rfl rfl rfl inferInstance ?hm ?hv ?_; (case hm => first | with_reducible assumption | repeat (first | exact .head _ | with_reducible assumption | apply mC)); (case hv => first | rfl | with_reducible assumption)) | (refine' xBp hR rfl rfl rfl inferInstance ?hm ?hv ?hn ?_; (case hm => first | with_reducible assumption | repeat (first | exact .head _ | with_reducible assumption | apply mC)); (case hv => first | with_reducible assumption | (simp only [kC, kD, kE, kF]; try rfl)); (case hn => first | rfl | simp)) | (go_at_call 10; refine (wS [] _ hR).mono ?_; clear hR; rintro e w ⟨rfl, hR⟩; simp only [List.nil_append] at hR) | (go_at_call 14; refine (cSum _).mono ?_; rintro e w ⟨rfl, hb⟩; replace hR := hR.call hb; clear hb))
      obtain ⟨b21, hb_⟩ : ∃ y, y = blk := ⟨_, rfl⟩
      subst hb_
      obtain ⟨b19, hb_⟩ : ∃ y, y = blk := ⟨_, rfl⟩
      subst hb_
      try simp only [Act.put, kA, kB, List.setIfInBounds_toArray]
      refine cut_code (fun l tm w' => ∃ c', agree (false :: false :: false :: false :: false :: false :: false :: false :: false :: false :: false :: false :: false :: false :: false :: false :: false :: false :: false :: false :: false :: false :: false :: false :: false :: false :: false :: false :: false :: false :: false :: false :: false :: false :: false :: false :: false :: false :: false :: false :: false :: false :: false :: false :: false :: false :: false :: false :: false :: false :: false :: false :: false :: false :: false :: false :: false :: false :: false :: false :: false :: false :: false :: false :: false :: false :: false :: false :: false :: false :: false :: false :: false :: false :: false :: false :: false :: false :: false :: false :: false :: false :: false :: false :: false :: false :: false :: false :: false :: false :: false :: false :: false :: false :: false :: false :: false :: false :: false :: false :: false :: false :: false :: false :: false :: false :: false :: false :: false :: false :: false :: false :: false :: false :: false :: false :: false :: false :: false :: false :: false :: false :: false :: false :: false :: false :: false :: false :: false :: false :: false :: false :: false :: false :: false :: false :: false :: false :: false :: false :: false :: false :: false :: false :: false :: false :: false :: false :: false :: false :: false :: false :: false :: false :: false :: false :: false :: false :: false :: false :: false :: false :: false :: false :: false :: false :: false :: false :: false :: false :: false :: true :: true :: true :: true :: true :: true :: true :: true :: true :: true :: true :: true :: true :: true :: false :: false :: false :: false :: false :: false :: false :: false :: false :: false :: false :: false :: false :: false :: false :: false :: false :: false :: false :: false :: false :: false :: false :: false :: false :: false :: false :: false :: false :: false :: false :: false :: false :: false :: false :: false :: false :: false :: false :: false :: false :: false :: false :: false :: false :: false :: false :: false :: false :: false :: false :: false :: false :: false :: false :: false :: false :: false :: false :: []) ((l.set 23 (.pointer (some ⟨c', 0, none⟩))).set 24 (.int .i64 je)) tm ∧ Rep W.heap.size W ((c', .cells (nl dv).toArray 24) :: (b21, .cells (nl sv).toArray 24) :: (b19, .cells (nl sv).toArray 24) :: (b13, .cells (nl pw).toArray 24) :: (b9, .cells (nl bv).toArray 24) :: (b7, .cells (nl av).toArray 24) :: (b5, .cells (nl2 xv c).toArray 37) :: (b4, .cells [.slice a i cp, .slice b i cq].toArray 36) :: (b3, .cells (gl p q g h).toArray 26) :: (X0.bl ++ Y0.bl)) w') ?r1 ?r2
      case r1 =>
        intro Q' hQ'
        refine xBy hR 17 xCo rfl ?_
        clear hR
        refine xCi [(b5, Obj.cells (nl2 xv c).toArray 37), (b4, Obj.cells [Value.slice a i cp, Value.slice b i cq].toArray 36), (b3, Obj.cells (gl p q g h).toArray 26)] [1, 1, 1, 2, 1, 1, 2, 2, 1, 1, 2, 2, 2, 2, 2, 2, 2] 10 rfl (by repeat (first | exact xAk | refine xAc (by repeat (first | exact .head _ | with_reducible assumption | apply mC)) ?_)) (by repeat (first | exact xAk | refine xAc (by repeat (first | exact .head _ | with_reducible assumption | apply mC)) ?_)) rfl (by decide +kernel) (fun K hK => ?_)
        repeat ((first | (refine' xCm rfl rfl rfl inferInstance ?hm ?hn ?ha ?_; (case hm => exact .tail _ (.tail _ (.head _))); (case hn => rfl)) | (refine xBj ?_) | (refine' xAq (by decide) rfl (.inl rfl) rfl ?ha ?_) | (refine' xAq (by decide) rfl (.inr rfl) rfl ?ha ?_) | (refine' xAm rfl rfl rfl inferInstance ?hm ?hn ?ha ?_; (case hm => first | with_reducible assumption | repeat (first | exact .head _ | with_reducible assumption | apply mC)); (case hn => first | rfl | simp)) | (refine' xAi rfl rfl rfl inferInstance ?hm ?hv ?hn ?ha ?_; (case hm => first | with_reducible assumption | repeat (first | exact .head _ | with_reducible assumption | apply mC)); (case hv => first | with_reducible assumption | (simp only [kC, kD, kE, kF]; try rfl)); (case hn => first | rfl | simp)) | (refine' xAg rfl rfl rfl inferInstance ?hm ?hv ?ha ?_; (case hm => first | with_reducible assumption | repeat (first | exact .head _ | with_reducible assumption | apply mC)); (case hv => first | rfl | with_reducible assumption)) | (refine' xAj rfl rfl rfl inferInstance ?hm ?hv ?hn ?ha ?_; (case hm => first | with_reducible assumption | repeat (first | exact .head _ | with_reducible assumption | apply mC)); (case hv => first | with_reducible assumption | (simp only [kC, kD, kE, kF]; try rfl)); (case hn => first | rfl | simp)) | (refine' xAh rfl rfl rfl inferInstance ?hm ?hv ?ha ?_; (case hm => first | with_reducible assumption | repeat (first | exact .head _ | with_reducible assumption | apply mC)); (case hv => first | rfl | with_reducible assumption)) | ((first | refine' xAe (by decide) rfl rfl rfl rfl (fun w => ?hq) ?ha ?_ | refine' xAx (by decide) rfl rfl rfl rfl (fun w => ?hq) ?ha ?_ | refine' xAn (by decide) rfl rfl rfl (fun w => ?hq) ?ha ?_ | refine' xAd (by decide) rfl rfl rfl (fun w => ?hq) ?ha ?_ | refine' xAl (by decide) rfl rfl rfl (fun w => ?hq) ?ha ?_ | refine' xAz (by decide) rfl rfl rfl rfl (fun w => ?hq) ?ha ?_ | refine' xAw (by decide) rfl rfl rfl rfl rfl rfl (fun w => ?hq) ?ha ?_ | refine' xAy (by decide) rfl rfl (fun w => ?hq) ?ha ?_ | refine' xAo (by decide) rfl rfl rfl (fun w => ?hq) ?ha ?_ | refine' xBa (by decide) rfl rfl rfl (fun w => ?hq) ?ha ?_); (case hq => go_simp; try rfl)) | (refine' xAf (by decide) rfl rfl rfl ?ha ?_) | (refine' xBh (by decide) rfl rfl rfl rfl ?ha ?_) | (refine' xBi (by decide) rfl ?ha ?_)); try (case ha => simp only [kP, kQ, kA, kB]; try rfl))
        refine xBo (hK _ _ ?_)
        clear hK K
        try simp only [Act.put, kA, kB, List.setIfInBounds_toArray]
        refine f_at [3, 6, 14] (by decide +kernel) rfl ?_
        refine f_is 3 ?_
        refine f_appAll rfl rfl rfl rfl rfl rfl S1.out hk3 (by repeat (first | exact xAk | refine xAc (by repeat (first | exact .head _ | with_reducible assumption | apply mC | apply List.mem_append_left)) ?_)) (fun Z hZ => ?_) ?_
        · simp only [Act.put, kA, kB, List.setIfInBounds_toArray]
          refine f_at [6, 14] (by decide +kernel) rfl ?_
          refine f_is 6 ?_
          refine f_new rfl rfl (isNew_nums1 rfl rfl rfl) (by repeat (first | exact xAk | refine xAc (by repeat (first | exact .head _ | with_reducible assumption | apply mC | apply List.mem_append_left)) ?_)) (fun bt => ?_) ?_
          · simp only [Act.put, kA, kB, List.setIfInBounds_toArray]
            refine f_at [7, 14] (by decide +kernel) rfl ?_
            refine f_is 7 ?_
            refine f_appOne (R0 := (b21, .cells (nl sv).toArray 24) :: (b19, .cells (nl sv).toArray 24) :: (b13, .cells (nl pw).toArray 24) :: (b9, .cells (nl bv).toArray 24) :: (b7, .cells (nl av).toArray 24) :: (b5, .cells (nl2 xv c).toArray 37) :: (b4, .cells [.slice a i cp, .slice b i cq].toArray 36) :: (b3, .cells (gl p q g h).toArray 26) :: (X0.bl ++ Y0.bl)) rfl rfl rfl rfl rfl rfl (pC _ _ _) (hZ1 Z hZ) hvZ.out hk2 (by repeat (first | exact xAk | refine xAc (by repeat (first | exact .head _ | with_reducible assumption | apply mC | apply List.mem_append_left)) ?_)) (fun Z2 hZ2 => ?_) ?_
            · simp only [Act.put, kA, kB, List.setIfInBounds_toArray]
              refine f_at [10, 14] (by decide +kernel) rfl ?_
              refine f_is 10 ?_
              refine f_y rfl rfl (xBv rfl rfl rfl (xBl Try.func10 (by kernel_rfl) (by kernel_rfl) _) (fun w hw => cD _ w Z2 hZ2 (fun p' hp' => List.mem_append_right _ hp') hw)) (by repeat (first | exact xAk | refine xAc (by repeat (first | exact .head _ | with_reducible assumption | apply mC | apply List.mem_append_left)) ?_)) ?_ ?_
              · simp only [Act.put, kA, kB, List.setIfInBounds_toArray]
                (refine xCi [(b5, Obj.cells (nl2 xv c).toArray 37), (b4, Obj.cells [Value.slice a i cp, Value.slice b i cq].toArray 36), (b3, Obj.cells (gl p q g h).toArray 26)] [2, 2, 2, 2, 2, 2, 2, 2, 2, 2, 2, 1, 1, 1, 2, 2, 2] 3 rfl (by repeat (first | exact xAk | refine xAc (by repeat (first | exact .head _ | with_reducible assumption | apply mC)) ?_)) (by repeat (first | exact xAk | refine xAc (by repeat (first | exact .head _ | with_reducible assumption | apply mC)) ?_)) rfl (by decide +kernel) (fun K hK => ?_); (repeat ((first | (refine xBj ?_) | (refine' xAq (by decide) rfl (.inl rfl) rfl ?ha ?_) | (refine' xAq (by decide) rfl (.inr rfl) rfl ?ha ?_) | (refine' xAm rfl rfl rfl inferInstance ?hm ?hn ?ha ?_; (case hm => first | with_reducible assumption | repeat (first | exact .head _ | with_reducible assumption | apply mC)); (case hn => first | rfl | simp)) | (refine' xAi rfl rfl rfl inferInstance ?hm ?hv ?hn ?ha ?_; (case hm => first | with_reducible assumption | repeat (first | exact .head _ | with_reducible assumption | apply mC)); (case hv => first | with_reducible assumption | (simp only [kC, kD, kE, kF]; try rfl)); (case hn => first | rfl | simp)) | (refine' xAg rfl rfl rfl inferInstance ?hm ?hv ?ha ?_; (case hm => first | with_reducible assumption | repeat (first | exact .head _ | with_reducible assumption | apply mC)); (case hv => first | rfl | with_reducible assumption)) | (refine' xAj rfl rfl rfl inferInstance ?hm ?hv ?hn ?ha ?_; (case hm => first | with_reducible assumption | repeat (first | exact .head _ | with_reducible assumption | apply mC)); (case hv => first | with_reducible assumption | (simp only [kC, kD, kE, kF]; try rfl)); (case hn => first | rfl | simp)) | (refine' xAh rfl rfl rfl inferInstance ?hm ?hv ?ha ?_; (case hm => first | with_reducible assumption | repeat (first | exact .head _ | with_reducible assumption | apply mC)); (case hv => first | rfl | with_reducible assumption)) | ((first | refine' xAe (by decide) rfl rfl rfl rfl (fun w => ?hq) ?ha ?_ | refine' xAx (by decide) rfl rfl rfl rfl (fun w => ?hq) ?ha ?_ | refine' xAn (by decide) rfl rfl rfl (fun w => ?hq) ?ha ?_ | refine' xAd (by decide) rfl rfl rfl (fun w => ?hq) ?ha ?_ | refine' xAl (by decide) rfl rfl rfl (fun w => ?hq) ?ha ?_ | refine' xAz (by decide) rfl rfl rfl rfl (fun w => ?hq) ?ha ?_ | refine' xAw (by decide) rfl rfl rfl rfl rfl rfl (fun w => ?hq) ?ha ?_ | refine' xAy (by decide) rfl rfl (fun w => ?hq) ?ha ?_ | refine' xAo (by decide) rfl rfl rfl (fun w => ?hq) ?ha ?_ | refine' xBa (by decide) rfl rfl rfl (fun w => ?hq) ?ha ?_); (case hq => go_simp; try rfl)) | (refine' xAf (by decide) rfl rfl rfl ?ha ?_) | (refine' xBh (by decide) rfl rfl rfl rfl ?ha ?_) | (refine' xBi (by decide) rfl ?ha ?_) | fail); try (case ha => simp only [kP, kQ, kA, kB]; try rfl))); refine xBo (hK _ _ ?_); clear hK K)
                try simp only [Act.put, kA, kB, List.setIfInBounds_toArray]
                refine f_at [14] (by decide +kernel) rfl ?_
                refine f_is 14 ?_
                refine f_new rfl rfl (xCj rfl rfl) (by repeat (first | exact xAk | refine xAc (by repeat (first | exact .head _ | with_reducible assumption | apply mC | apply List.mem_append_left)) ?_)) (fun c' => ?_) xCd
                simp only [Act.put, kA, kB, List.setIfInBounds_toArray]
                refine f_at [15] (by decide +kernel) rfl ?_
                refine f_is 15 ?_
                refine' f_s rfl rfl (xBw (l := [.int .u64 0, .int .u64 0, .int .u64 0, .int .u64 0]) rfl rfl rfl inferInstance rfl rfl rfl rfl ?hs) ?hk ?_ xCd
                (case hs => repeat (first | exact xAv.head | with_reducible assumption | apply xAv.tail))
                (case hk => exact (by repeat (first | exact xAk | refine xAc (by repeat (first | exact .head _ | with_reducible assumption | apply mC | apply List.mem_append_left)) ?_)))
                refine f_at [16] (by decide +kernel) rfl ?_
                refine f_is 16 ?_
                refine f_y rfl rfl (xBg rfl (.inl rfl) rfl) (by repeat (first | exact xAk | refine xAc (by repeat (first | exact .head _ | with_reducible assumption | apply mC | apply List.mem_append_left)) ?_)) ?_ xCd
                simp only [Act.put, kA, kB, List.setIfInBounds_toArray]
                refine f_end (by decide +kernel) (fun w hR => ?_)
                simp only [Exit.then]
                exact hQ'.out _ _ ⟨c', xBd rfl rfl rfl, hR.weaken (List.sublist_append_left (_ :: _) _)⟩
              refine f_is 14 ?_
              refine f_new rfl rfl (xCj rfl rfl) (by repeat (first | exact xAk | refine xAc (by repeat (first | exact .head _ | with_reducible assumption | apply mC | apply List.mem_append_left)) ?_)) (fun c' => ?_) xCd
              simp only [Act.put, kA, kB, List.setIfInBounds_toArray]
              refine f_at [10] (by decide +kernel) rfl ?_
              refine f_is 10 ?_
              refine f_y rfl rfl (xBv rfl rfl rfl (xBl Try.func10 (by kernel_rfl) (by kernel_rfl) _) (fun w hw => cD _ w Z2 hZ2 (fun p' hp' => mC _ (List.mem_append_right _ hp')) hw)) (by repeat (first | exact xAk | refine xAc (by repeat (first | exact .head _ | with_reducible assumption | apply mC | apply List.mem_append_left)) ?_)) ?_ xCd
              simp only [Act.put, kA, kB, List.setIfInBounds_toArray]
              (refine xCi [(b5, Obj.cells (nl2 xv c).toArray 37), (b4, Obj.cells [Value.slice a i cp, Value.slice b i cq].toArray 36), (b3, Obj.cells (gl p q g h).toArray 26)] [2, 2, 2, 2, 2, 2, 2, 2, 2, 2, 2, 1, 1, 1, 2, 2, 2] 2 rfl (by repeat (first | exact xAk | refine xAc (by repeat (first | exact .head _ | with_reducible assumption | apply mC)) ?_)) (by repeat (first | exact xAk | refine xAc (by repeat (first | exact .head _ | with_reducible assumption | apply mC)) ?_)) rfl (by decide +kernel) (fun K hK => ?_); (repeat ((first | (refine xBj ?_) | (refine' xAq (by decide) rfl (.inl rfl) rfl ?ha ?_) | (refine' xAq (by decide) rfl (.inr rfl) rfl ?ha ?_) | (refine' xAm rfl rfl rfl inferInstance ?hm ?hn ?ha ?_; (case hm => first | with_reducible assumption | repeat (first | exact .head _ | with_reducible assumption | apply mC)); (case hn => first | rfl | simp)) | (refine' xAi rfl rfl rfl inferInstance ?hm ?hv ?hn ?ha ?_; (case hm => first | with_reducible assumption | repeat (first | exact .head _ | with_reducible assumption | apply mC)); (case hv => first | with_reducible assumption | (simp only [kC, kD, kE, kF]; try rfl)); (case hn => first | rfl | simp)) | (refine' xAg rfl rfl rfl inferInstance ?hm ?hv ?ha ?_; (case hm => first | with_reducible assumption | repeat (first | exact .head _ | with_reducible assumption | apply mC)); (case hv => first | rfl | with_reducible assumption)) | (refine' xAj rfl rfl rfl inferInstance ?hm ?hv ?hn ?ha ?_; (case hm => first | with_reducible assumption | repeat (first | exact .head _ | with_reducible assumption | apply mC)); (case hv => first | with_reducible assumption | (simp only [kC, kD, kE, kF]; try rfl)); (case hn => first | rfl | simp)) | (refine' xAh rfl rfl rfl inferInstance ?hm ?hv ?ha ?_; (case hm => first | with_reducible assumption | repeat (first | exact .head _ | with_reducible assumption | apply mC)); (case hv => first | rfl | with_reducible assumption)) | ((first | refine' xAe (by decide) rfl rfl rfl rfl (fun w => ?hq) ?ha ?_ | refine' xAx (by decide) rfl rfl rfl rfl (fun w => ?hq) ?ha ?_ | refine' xAn (by decide) rfl rfl rfl (fun w => ?hq) ?ha ?_ | refine' xAd (by decide) rfl rfl rfl (fun w => ?hq) ?ha ?_ | refine' xAl (by decide) rfl rfl rfl (fun w => ?hq) ?ha ?_ | refine' xAz (by decide) rfl rfl rfl rfl (fun w => ?hq) ?ha ?_ | refine' xAw (by decide) rfl rfl rfl rfl rfl rfl (fun w => ?hq) ?ha ?_ | refine' xAy (by decide) rfl rfl (fun w => ?hq) ?ha ?_ | refine' xAo (by decide) rfl rfl rfl (fun w => ?hq) ?ha ?_ | refine' xBa (by decide) rfl rfl rfl (fun w => ?hq) ?ha ?_); (case hq => go_simp; try rfl)) | (refine' xAf (by decide) rfl rfl rfl ?ha ?_) | (refine' xBh (by decide) rfl rfl rfl rfl ?ha ?_) | (refine' xBi (by decide) rfl ?ha ?_) | fail); try (case ha => simp only [kP, kQ, kA, kB]; try rfl))); refine xBo (hK _ _ ?_); clear hK K)
              try simp only [Act.put, kA, kB, List.setIfInBounds_toArray]
              refine f_at [15] (by decide +kernel) rfl ?_
              refine f_is 15 ?_
              refine' f_s rfl rfl (xBw (l := [.int .u64 0, .int .u64 0, .int .u64 0, .int .u64 0]) rfl rfl rfl inferInstance rfl rfl rfl rfl ?hs) ?hk ?_ xCd
              (case hs => repeat (first | exact xAv.head | with_reducible assumption | apply xAv.tail))
              (case hk => exact (by repeat (first | exact xAk | refine xAc (by repeat (first | exact .head _ | with_reducible assumption | apply mC | apply List.mem_append_left)) ?_)))
              refine f_at [16] (by decide +kernel) rfl ?_
              refine f_is 16 ?_
              refine f_y rfl rfl (xBg rfl (.inl rfl) rfl) (by repeat (first | exact xAk | refine xAc (by repeat (first | exact .head _ | with_reducible assumption | apply mC | apply List.mem_append_left)) ?_)) ?_ xCd
              simp only [Act.put, kA, kB, List.setIfInBounds_toArray]
              refine f_end (by decide +kernel) (fun w hR => ?_)
              simp only [Exit.then]
              exact hQ'.out _ _ ⟨c', xBd rfl rfl rfl, hR.weaken (List.sublist_append_left (_ :: _) _)⟩
            refine f_is 14 ?_
            refine f_new rfl rfl (xCj rfl rfl) (by repeat (first | exact xAk | refine xAc (by repeat (first | exact .head _ | with_reducible assumption | apply mC | apply List.mem_append_left)) ?_)) (fun c' => ?_) xCd
            simp only [Act.put, kA, kB, List.setIfInBounds_toArray]
            refine f_at [7] (by decide +kernel) rfl ?_
            refine f_is 7 ?_
            refine f_appOne (R0 := (c', .cells [.int .u64 0, .int .u64 0, .int .u64 0, .int .u64 0].toArray 24) :: (b21, .cells (nl sv).toArray 24) :: (b19, .cells (nl sv).toArray 24) :: (b13, .cells (nl pw).toArray 24) :: (b9, .cells (nl bv).toArray 24) :: (b7, .cells (nl av).toArray 24) :: (b5, .cells (nl2 xv c).toArray 37) :: (b4, .cells [.slice a i cp, .slice b i cq].toArray 36) :: (b3, .cells (gl p q g h).toArray 26) :: (X0.bl ++ Y0.bl)) rfl rfl rfl rfl rfl rfl (pB _ _ _ _) (hZ1 Z hZ) hvZ.out hk2 (by repeat (first | exact xAk | refine xAc (by repeat (first | exact .head _ | with_reducible assumption | apply mC | apply List.mem_append_left)) ?_)) (fun Z2 hZ2 => ?_) xCd
            simp only [Act.put, kA, kB, List.setIfInBounds_toArray]
            refine f_at [10] (by decide +kernel) rfl ?_
            refine f_is 10 ?_
            refine f_y rfl rfl (xBv rfl rfl rfl (xBl Try.func10 (by kernel_rfl) (by kernel_rfl) _) (fun w hw => cD _ w Z2 hZ2 (fun p' hp' => List.mem_append_right (_ :: _) hp') hw)) (by repeat (first | exact xAk | refine xAc (by repeat (first | exact .head _ | with_reducible assumption | apply mC | apply List.mem_append_left)) ?_)) ?_ xCd
            simp only [Act.put, kA, kB, List.setIfInBounds_toArray]
            (refine xCi [(b5, Obj.cells (nl2 xv c).toArray 37), (b4, Obj.cells [Value.slice a i cp, Value.slice b i cq].toArray 36), (b3, Obj.cells (gl p q g h).toArray 26)] [2, 2, 2, 2, 2, 2, 2, 2, 2, 2, 2, 1, 1, 1, 2, 2, 2] 2 rfl (by repeat (first | exact xAk | refine xAc (by repeat (first | exact .head _ | with_reducible assumption | apply mC)) ?_)) (by repeat (first | exact xAk | refine xAc (by repeat (first | exact .head _ | with_reducible assumption | apply mC)) ?_)) rfl (by decide +kernel) (fun K hK => ?_); (repeat ((first | (refine xBj ?_) | (refine' xAq (by decide) rfl (.inl rfl) rfl ?ha ?_) | (refine' xAq (by decide) rfl (.inr rfl) rfl ?ha ?_) | (refine' xAm rfl rfl rfl inferInstance ?hm ?hn ?ha ?_; (case hm => first | with_reducible assumption | repeat (first | exact .head _ | with_reducible assumption | apply mC)); (case hn => first | rfl | simp)) | (refine' xAi rfl rfl rfl inferInstance ?hm ?hv ?hn ?ha ?_; (case hm => first | with_reducible assumption | repeat (first | exact .head _ | with_reducible assumption | apply mC)); (case hv => first | with_reducible assumption | (simp only [kC, kD, kE, kF]; try rfl)); (case hn => first | rfl | simp)) | (refine' xAg rfl rfl rfl inferInstance ?hm ?hv ?ha ?_; (case hm => first | with_reducible assumption | repeat (first | exact .head _ | with_reducible assumption | apply mC)); (case hv => first | rfl | with_reducible assumption)) | (refine' xAj rfl rfl rfl inferInstance ?hm ?hv ?hn ?ha ?_; (case hm => first | with_reducible assumption | repeat (first | exact .head _ | with_reducible assumption | apply mC)); (case hv => first | with_reducible assumption | (simp only [kC, kD, kE, kF]; try rfl)); (case hn => first | rfl | simp)) | (refine' xAh rfl rfl rfl inferInstance ?hm ?hv ?ha ?_; (case hm => first | with_reducible assumption | repeat (first | exact .head _ | with_reducible assumption | apply mC)); (case hv => first | rfl | with_reducible assumption)) | ((first | refine' xAe (by decide) rfl rfl rfl rfl (fun w => ?hq) ?ha ?_ | refine' xAx (by decide) rfl rfl rfl rfl (fun w => ?hq) ?ha ?_ | refine' xAn (by decide) rfl rfl rfl (fun w => ?hq) ?ha ?_ | refine' xAd (by decide) rfl rfl rfl (fun w => ?hq) ?ha ?_ | refine' xAl (by decide) rfl rfl rfl (fun w => ?hq) ?ha ?_ | refine' xAz (by decide) rfl rfl rfl rfl (fun w => ?hq) ?ha ?_ | refine' xAw (by decide) rfl rfl rfl rfl rfl rfl (fun w => ?hq) ?ha ?_ | refine' xAy (by decide) rfl rfl (fun w => ?hq) ?ha ?_ | refine' xAo (by decide) rfl rfl rfl (fun w => ?hq) ?ha ?_ | refine' xBa (by decide) rfl rfl rfl (fun w => ?hq) ?ha ?_); (case hq => go_simp; try rfl)) | (refine' xAf (by decide) rfl rfl rfl ?ha ?_) | (refine' xBh (by decide) rfl rfl rfl rfl ?ha ?_) | (refine' xBi (by decide) rfl ?ha ?_) | fail); try (case ha => simp only [kP, kQ, kA, kB]; try rfl))); refine xBo (hK _ _ ?_); clear hK K)
            try simp only [Act.put, kA, kB, List.setIfInBounds_toArray]
            refine f_at [15] (by decide +kernel) rfl ?_
            refine f_is 15 ?_
            refine' f_s rfl rfl (xBw (l := [.int .u64 0, .int .u64 0, .int .u64 0, .int .u64 0]) rfl rfl rfl inferInstance rfl rfl rfl rfl ?hs) ?hk ?_ xCd
            (case hs => repeat (first | exact xAv.head | with_reducible assumption | apply xAv.tail))
            (case hk => exact (by repeat (first | exact xAk | refine xAc (by repeat (first | exact .head _ | with_reducible assumption | apply mC | apply List.mem_append_left)) ?_)))
            refine f_at [16] (by decide +kernel) rfl ?_
            refine f_is 16 ?_
            refine f_y rfl rfl (xBg rfl (.inl rfl) rfl) (by repeat (first | exact xAk | refine xAc (by repeat (first | exact .head _ | with_reducible assumption | apply mC | apply List.mem_append_left)) ?_)) ?_ xCd
            simp only [Act.put, kA, kB, List.setIfInBounds_toArray]
            refine f_end (by decide +kernel) (fun w hR => ?_)
            simp only [Exit.then]
            exact hQ'.out _ _ ⟨c', xBd rfl rfl rfl, hR.weaken (List.sublist_append_left (_ :: _) _)⟩
          refine f_is 14 ?_
          refine f_new rfl rfl (xCj rfl rfl) (by repeat (first | exact xAk | refine xAc (by repeat (first | exact .head _ | with_reducible assumption | apply mC | apply List.mem_append_left)) ?_)) (fun c' => ?_) xCd
          simp only [Act.put, kA, kB, List.setIfInBounds_toArray]
          refine f_at [6] (by decide +kernel) rfl ?_
          refine f_is 6 ?_
          refine f_new rfl rfl (isNew_nums1 rfl rfl rfl) (by repeat (first | exact xAk | refine xAc (by repeat (first | exact .head _ | with_reducible assumption | apply mC | apply List.mem_append_left)) ?_)) (fun bt => ?_) xCd
          simp only [Act.put, kA, kB, List.setIfInBounds_toArray]
          refine f_at [7] (by decide +kernel) rfl ?_
          refine f_is 7 ?_
          refine f_appOne (R0 := (c', .cells [.int .u64 0, .int .u64 0, .int .u64 0, .int .u64 0].toArray 24) :: (b21, .cells (nl sv).toArray 24) :: (b19, .cells (nl sv).toArray 24) :: (b13, .cells (nl pw).toArray 24) :: (b9, .cells (nl bv).toArray 24) :: (b7, .cells (nl av).toArray 24) :: (b5, .cells (nl2 xv c).toArray 37) :: (b4, .cells [.slice a i cp, .slice b i cq].toArray 36) :: (b3, .cells (gl p q g h).toArray 26) :: (X0.bl ++ Y0.bl)) rfl rfl rfl rfl rfl rfl (pC (_ :: _) _ _) (hZ1 Z hZ) hvZ.out hk2 (by repeat (first | exact xAk | refine xAc (by repeat (first | exact .head _ | with_reducible assumption | apply mC | apply List.mem_append_left)) ?_)) (fun Z2 hZ2 => ?_) xCd
          simp only [Act.put, kA, kB, List.setIfInBounds_toArray]
          refine f_at [10] (by decide +kernel) rfl ?_
          refine f_is 10 ?_
          refine f_y rfl rfl (xBv rfl rfl rfl (xBl Try.func10 (by kernel_rfl) (by kernel_rfl) _) (fun w hw => cD _ w Z2 hZ2 (fun p' hp' => List.mem_append_right (_ :: _) hp') hw)) (by repeat (first | exact xAk | refine xAc (by repeat (first | exact .head _ | with_reducible assumption | apply mC | apply List.mem_append_left)) ?_)) ?_ xCd
          simp only [Act.put, kA, kB, List.setIfInBounds_toArray]
          (refine xCi [(b5, Obj.cells (nl2 xv c).toArray 37), (b4, Obj.cells [Value.slice a i cp, Value.slice b i cq].toArray 36), (b3, Obj.cells (gl p q g h).toArray 26)] [2, 2, 2, 2, 2, 2, 2, 2, 2, 2, 2, 1, 1, 1, 2, 2, 2] 2 rfl (by repeat (first | exact xAk | refine xAc (by repeat (first | exact .head _ | with_reducible assumption | apply mC)) ?_)) (by repeat (first | exact xAk | refine xAc (by repeat (first | exact .head _ | with_reducible assumption | apply mC)) ?_)) rfl (by decide +kernel) (fun K hK => ?_); (repeat ((first | (refine xBj ?_) | (refine' xAq (by decide) rfl (.inl rfl) rfl ?ha ?_) | (refine' xAq (by decide) rfl (.inr rfl) rfl ?ha ?_) | (refine' xAm rfl rfl rfl inferInstance ?hm ?hn ?ha ?_; (case hm => first | with_reducible assumption | repeat (first | exact .head _ | with_reducible assumption | apply mC)); (case hn => first | rfl | simp)) | (refine' xAi rfl rfl rfl inferInstance ?hm ?hv ?hn ?ha ?_; (case hm => first | with_reducible assumption | repeat (first | exact .head _ | with_reducible assumption | apply mC)); (case hv => first | with_reducible assumption | (simp only [kC, kD, kE, kF]; try rfl)); (case hn => first | rfl | simp)) | (refine' xAg rfl rfl rfl inferInstance ?hm ?hv ?ha ?_; (case hm => first | with_reducible assumption | repeat (first | exact .head _ | with_reducible assumption | apply mC)); (case hv => first | rfl | with_reducible assumption)) | (refine' xAj rfl rfl rfl inferInstance ?hm ?hv ?hn ?ha ?_; (case hm => first | with_reducible assumption | repeat (first | exact .head _ | with_reducible assumption | apply mC)); (case hv => first | with_reducible assumption | (simp only [kC, kD, kE, kF]; try rfl)); (case hn => first | rfl | simp)) | (refine' xAh rfl rfl rfl inferInstance ?hm ?hv ?ha ?_; (case hm => first | with_reducible assumption | repeat (first | exact .head _ | with_reducible assumption | apply mC)); (case hv => first | rfl | with_reducible assumption)) | ((first | refine' xAe (by decide) rfl rfl rfl rfl (fun w => ?hq) ?ha ?_ | refine' xAx (by decide) rfl rfl rfl rfl (fun w => ?hq) ?ha ?_ | refine' xAn (by decide) rfl rfl rfl (fun w => ?hq) ?ha ?_ | refine' xAd (by decide) rfl rfl rfl (fun w => ?hq) ?ha ?_ | refine' xAl (by decide) rfl rfl rfl (fun w => ?hq) ?ha ?_ | refine' xAz (by decide) rfl rfl rfl rfl (fun w => ?hq) ?ha ?_ | refine' xAw (by decide) rfl rfl rfl rfl rfl rfl (fun w => ?hq) ?ha ?_ | refine' xAy (by decide) rfl rfl (fun w => ?hq) ?ha ?_ | refine' xAo (by decide) rfl rfl rfl (fun w => ?hq) ?ha ?_ | refine' xBa (by decide) rfl rfl rfl (fun w => ?hq) ?ha ?_); (case hq => go_simp; try rfl)) | (refine' xAf (by decide) rfl rfl rfl ?ha ?_) | (refine' xBh (by decide) rfl rfl rfl rfl ?ha ?_) | (refine' xBi (by decide) rfl ?ha ?_) | fail); try (case ha => simp only [kP, kQ, kA, kB]; try rfl))); refine xBo (hK _ _ ?_); clear hK K)
          try simp only [Act.put, kA, kB, List.setIfInBounds_toArray]
          refine f_at [15] (by decide +kernel) rfl ?_
          refine f_is 15 ?_
          refine' f_s rfl rfl (xBw (l := [.int .u64 0, .int .u64 0, .int .u64 0, .int .u64 0]) rfl rfl rfl inferInstance rfl rfl rfl rfl ?hs) ?hk ?_ xCd
          (case hs => repeat (first | exact xAv.head | with_reducible assumption | apply xAv.tail))
          (case hk => exact (by repeat (first | exact xAk | refine xAc (by repeat (first | exact .head _ | with_reducible assumption | apply mC | apply List.mem_append_left)) ?_)))
          refine f_at [16] (by decide +kernel) rfl ?_
          refine f_is 16 ?_
          refine f_y rfl rfl (xBg rfl (.inl rfl) rfl) (by repeat (first | exact xAk | refine xAc (by repeat (first | exact .head _ | with_reducible assumption | apply mC | apply List.mem_append_left)) ?_)) ?_ xCd
          simp only [Act.put, kA, kB, List.setIfInBounds_toArray]
          refine f_end (by decide +kernel) (fun w hR => ?_)
          simp only [Exit.then]
          exact hQ'.out _ _ ⟨c', xBd rfl rfl rfl, hR.weaken (List.sublist_append_left (_ :: _) _)⟩
        refine f_is 6 ?_
        refine f_new rfl rfl (isNew_nums1 rfl rfl rfl) (by repeat (first | exact xAk | refine xAc (by repeat (first | exact .head _ | with_reducible assumption | apply mC | apply List.mem_append_left)) ?_)) (fun bt => ?_) ?_
        · simp only [Act.put, kA, kB, List.setIfInBounds_toArray]
          refine f_at [3, 14] (by decide +kernel) rfl ?_
          refine f_is 3 ?_
          refine f_appAll rfl rfl rfl rfl rfl rfl S1.out hk3 (by repeat (first | exact xAk | refine xAc (by repeat (first | exact .head _ | with_reducible assumption | apply mC | apply List.mem_append_left)) ?_)) (fun Z hZ => ?_) ?_
          · simp only [Act.put, kA, kB, List.setIfInBounds_toArray]
            refine f_at [7, 14] (by decide +kernel) rfl ?_
            refine f_is 7 ?_
            refine f_appOne (R0 := (b21, .cells (nl sv).toArray 24) :: (b19, .cells (nl sv).toArray 24) :: (b13, .cells (nl pw).toArray 24) :: (b9, .cells (nl bv).toArray 24) :: (b7, .cells (nl av).toArray 24) :: (b5, .cells (nl2 xv c).toArray 37) :: (b4, .cells [.slice a i cp, .slice b i cq].toArray 36) :: (b3, .cells (gl p q g h).toArray 26) :: (X0.bl ++ Y0.bl)) rfl rfl rfl rfl rfl rfl (pC _ _ _) (hZ1 Z hZ) hvZ.out hk2 (by repeat (first | exact xAk | refine xAc (by repeat (first | exact .head _ | with_reducible assumption | apply mC | apply List.mem_append_left)) ?_)) (fun Z2 hZ2 => ?_) ?_
            · simp only [Act.put, kA, kB, List.setIfInBounds_toArray]
              refine f_at [10, 14] (by decide +kernel) rfl ?_
              refine f_is 10 ?_
              refine f_y rfl rfl (xBv rfl rfl rfl (xBl Try.func10 (by kernel_rfl) (by kernel_rfl) _) (fun w hw => cD _ w Z2 hZ2 (fun p' hp' => List.mem_append_right _ hp') hw)) (by repeat (first | exact xAk | refine xAc (by repeat (first | exact .head _ | with_reducible assumption | apply mC | apply List.mem_append_left)) ?_)) ?_ ?_
              · simp only [Act.put, kA, kB, List.setIfInBounds_toArray]
                (refine xCi [(b5, Obj.cells (nl2 xv c).toArray 37), (b4, Obj.cells [Value.slice a i cp, Value.slice b i cq].toArray 36), (b3, Obj.cells (gl p q g h).toArray 26)] [2, 2, 2, 2, 2, 2, 2, 2, 2, 2, 2, 1, 1, 1, 2, 2, 2] 3 rfl (by repeat (first | exact xAk | refine xAc (by repeat (first | exact .head _ | with_reducible assumption | apply mC)) ?_)) (by repeat (first | exact xAk | refine xAc (by repeat (first | exact .head _ | with_reducible assumption | apply mC)) ?_)) rfl (by decide +kernel) (fun K hK => ?_); (repeat ((first | (refine xBj ?_) | (refine' xAq (by decide) rfl (.inl rfl) rfl ?ha ?_) | (refine' xAq (by decide) rfl (.inr rfl) rfl ?ha ?_) | (refine' xAm rfl rfl rfl inferInstance ?hm ?hn ?ha ?_; (case hm => first | with_reducible assumption | repeat (first | exact .head _ | with_reducible assumption | apply mC)); (case hn => first | rfl | simp)) | (refine' xAi rfl rfl rfl inferInstance ?hm ?hv ?hn ?ha ?_; (case hm => first | with_reducible assumption | repeat (first | exact .head _ | with_reducible assumption | apply mC)); (case hv => first | with_reducible assumption | (simp only [kC, kD, kE, kF]; try rfl)); (case hn => first | rfl | simp)) | (refine' xAg rfl rfl rfl inferInstance ?hm ?hv ?ha ?_; (case hm => first | with_reducible assumption | repeat (first | exact .head _ | with_reducible assumption | apply mC)); (case hv => first | rfl | with_reducible assumption)) | (refine' xAj rfl rfl rfl inferInstance ?hm ?hv ?hn ?ha ?_; (case hm => first | with_reducible assumption | repeat (first | exact .head _ | with_reducible assumption | apply mC)); (case hv => first | with_reducible assumption | (simp only [kC, kD, kE, kF]; try rfl)); (case hn => first | rfl | simp)) | (refine' xAh rfl rfl rfl inferInstance ?hm ?hv ?ha ?_; (case hm => first | with_reducible assumption | repeat (first | exact .head _ | with_reducible assumption | apply mC)); (case hv => first | rfl | with_reducible assumption)) | ((first | refine' xAe (by decide) rfl rfl rfl rfl (fun w => ?hq) ?ha ?_ | refine' xAx (by decide) rfl rfl rfl rfl (fun w => ?hq) ?ha ?_ | refine' xAn (by decide) rfl rfl rfl (fun w => ?hq) ?ha ?_ | refine' xAd (by decide) rfl rfl rfl (fun w => ?hq) ?ha ?_ | refine' xAl (by decide) rfl rfl rfl (fun w => ?hq) ?ha ?_ | refine' xAz (by decide) rfl rfl rfl rfl (fun w => ?hq) ?ha ?_ | refine' xAw (by decide) rfl rfl rfl rfl rfl rfl (fun w => ?hq) ?ha ?_ | refine' xAy (by decide) rfl rfl (fun w => ?hq) ?ha ?_ | refine' xAo (by decide) rfl rfl rfl (fun w => ?hq) ?ha ?_ | refine' xBa (by decide) rfl rfl rfl (fun w => ?hq) ?ha ?_); (case hq => go_simp; try rfl)) | (refine' xAf (by decide) rfl rfl rfl ?ha ?_) | (refine' xBh (by decide) rfl rfl rfl rfl ?ha ?_) | (refine' xBi (by decide) rfl ?ha ?_) | fail); try (case ha => simp only [kP, kQ, kA, kB]; try rfl))); refine xBo (hK _ _ ?_); clear hK K)
                try simp only [Act.put, kA, kB, List.setIfInBounds_toArray]
                refine f_at [14] (by decide +kernel) rfl ?_
                refine f_is 14 ?_
                refine f_new rfl rfl (xCj rfl rfl) (by repeat (first | exact xAk | refine xAc (by repeat (first | exact .head _ | with_reducible assumption | apply mC | apply List.mem_append_left)) ?_)) (fun c' => ?_) xCd
                simp only [Act.put, kA, kB, List.setIfInBounds_toArray]
                refine f_at [15] (by decide +kernel) rfl ?_
                refine f_is 15 ?_
                refine' f_s rfl rfl (xBw (l := [.int .u64 0, .int .u64 0, .int .u64 0, .int .u64 0]) rfl rfl rfl inferInstance rfl rfl rfl rfl ?hs) ?hk ?_ xCd
                (case hs => repeat (first | exact xAv.head | with_reducible assumption | apply xAv.tail))
                (case hk => exact (by repeat (first | exact xAk | refine xAc (by repeat (first | exact .head _ | with_reducible assumption | apply mC | apply List.mem_append_left)) ?_)))
                refine f_at [16] (by decide +kernel) rfl ?_
                refine f_is 16 ?_
                refine f_y rfl rfl (xBg rfl (.inl rfl) rfl) (by repeat (first | exact xAk | refine xAc (by repeat (first | exact .head _ | with_reducible assumption | apply mC | apply List.mem_append_left)) ?_)) ?_ xCd
                simp only [Act.put, kA, kB, List.setIfInBounds_toArray]
                refine f_end (by decide +kernel) (fun w hR => ?_)
                simp only [Exit.then]
                exact hQ'.out _ _ ⟨c', xBd rfl rfl rfl, hR.weaken (List.sublist_append_left (_ :: _) _)⟩
              refine f_is 14 ?_
              refine f_new rfl rfl (xCj rfl rfl) (by repeat (first | exact xAk | refine xAc (by repeat (first | exact .head _ | with_reducible assumption | apply mC | apply List.mem_append_left)) ?_)) (fun c' => ?_) xCd
              simp only [Act.put, kA, kB, List.setIfInBounds_toArray]
              refine f_at [10] (by decide +kernel) rfl ?_
              refine f_is 10 ?_
              refine f_y rfl rfl (xBv rfl rfl rfl (xBl Try.func10 (by kernel_rfl) (by kernel_rfl) _) (fun w hw => cD _ w Z2 hZ2 (fun p' hp' => mC _ (List.mem_append_right _ hp')) hw)) (by repeat (first | exact xAk | refine xAc (by repeat (first | exact .head _ | with_reducible assumption | apply mC | apply List.mem_append_left)) ?_)) ?_ xCd
              simp only [Act.put, kA, kB, List.setIfInBounds_toArray]
              (refine xCi [(b5, Obj.cells (nl2 xv c).toArray 37), (b4, Obj.cells [Value.slice a i cp, Value.slice b i cq].toArray 36), (b3, Obj.cells (gl p q g h).toArray 26)] [2, 2, 2, 2, 2, 2, 2, 2, 2, 2, 2, 1, 1, 1, 2, 2, 2] 2 rfl (by repeat (first | exact xAk | refine xAc (by repeat (first | exact .head _ | with_reducible assumption | apply mC)) ?_)) (by repeat (first | exact xAk | refine xAc (by repeat (first | exact .head _ | with_reducible assumption | apply mC)) ?_)) rfl (by decide +kernel) (fun K hK => ?_); (repeat ((first | (refine xBj ?_) | (refine' xAq (by decide) rfl (.inl rfl) rfl ?ha ?_) | (refine' xAq (by decide) rfl (.inr rfl) rfl ?ha ?_) | (refine' xAm rfl rfl rfl inferInstance ?hm ?hn ?ha ?_; (case hm => first | with_reducible assumption | repeat (first | exact .head _ | with_reducible assumption | apply mC)); (case hn => first | rfl | simp)) | (refine' xAi rfl rfl rfl inferInstance ?hm ?hv ?hn ?ha ?_; (case hm => first | with_reducible assumption | repeat (first | exact .head _ | with_reducible assumption | apply mC)); (case hv => first | with_reducible assumption | (simp only [kC, kD, kE, kF]; try rfl)); (case hn => first | rfl | simp)) | (refine' xAg rfl rfl rfl inferInstance ?hm ?hv ?ha ?_; (case hm => first | with_reducible assumption | repeat (first | exact .head _ | with_reducible assumption | apply mC)); (case hv => first | rfl | with_reducible assumption)) | (refine' xAj rfl rfl rfl inferInstance ?hm ?hv ?hn ?ha ?_; (case hm => first | with_reducible assumption | repeat (first | exact .head _ | with_reducible assumption | apply mC)); (case hv => first | with_reducible assumption | (simp only [kC, kD, kE, kF]; try rfl)); (case hn => first | rfl | simp)) | (refine' xAh rfl rfl rfl inferInstance ?hm ?hv ?ha ?_; (case hm => first | with_reducible assumption | repeat (first | exact .head _ | with_reducible assumption | apply mC)); (case hv => first | rfl | with_reducible assumption)) | ((first | refine' xAe (by decide) rfl rfl rfl rfl (fun w => ?hq) ?ha ?_ | refine' xAx (by decide) rfl rfl rfl rfl (fun w => ?hq) ?ha ?_ | refine' xAn (by decide) rfl rfl rfl (fun w => ?hq) ?ha ?_ | refine' xAd (by decide) rfl rfl rfl (fun w => ?hq) ?ha ?_ | refine' xAl (by decide) rfl rfl rfl (fun w => ?hq) ?ha ?_ | refine' xAz (by decide) rfl rfl rfl rfl (fun w => ?hq) ?ha ?_ | refine' xAw (by decide) rfl rfl rfl rfl rfl rfl (fun w => ?hq) ?ha ?_ | refine' xAy (by decide) rfl rfl (fun w => ?hq) ?ha ?_ | refine' xAo (by decide) rfl rfl rfl (fun w => ?hq) ?ha ?_ | refine' xBa (by decide) rfl rfl rfl (fun w => ?hq) ?ha ?_); (case hq => go_simp; try rfl)) | (refine' xAf (by decide) rfl rfl rfl ?ha ?_) | (refine' xBh (by decide) rfl rfl rfl rfl ?ha ?_) | (refine' xBi (by decide) rfl ?ha ?_) | fail); try (case ha => simp only [kP, kQ, kA, kB]; try rfl))); refine xBo (hK _ _ ?_); clear hK K)
              try simp only [Act.put, kA, kB, List.setIfInBounds_toArray]
              refine f_at [15] (by decide +kernel) rfl ?_
              refine f_is 15 ?_
              refine' f_s rfl rfl (xBw (l := [.int .u64 0, .int .u64 0, .int .u64 0, .int .u64 0]) rfl rfl rfl inferInstance rfl rfl rfl rfl ?hs) ?hk ?_ xCd
              (case hs => repeat (first | exact xAv.head | with_reducible assumption | apply xAv.tail))
              (case hk => exact (by repeat (first | exact xAk | refine xAc (by repeat (first | exact .head _ | with_reducible assumption | apply mC | apply List.mem_append_left)) ?_)))
              refine f_at [16] (by decide +kernel) rfl ?_
              refine f_is 16 ?_
              refine f_y rfl rfl (xBg rfl (.inl rfl) rfl) (by repeat (first | exact xAk | refine xAc (by repeat (first | exact .head _ | with_reducible assumption | apply mC | apply List.mem_append_left)) ?_)) ?_ xCd
              simp only [Act.put, kA, kB, List.setIfInBounds_toArray]
              refine f_end (by decide +kernel) (fun w hR => ?_)
              simp only [Exit.then]
              exact hQ'.out _ _ ⟨c', xBd rfl rfl rfl, hR.weaken (List.sublist_append_left (_ :: _) _)⟩
            refine f_is 14 ?_
            refine f_new rfl rfl (xCj rfl rfl) (by repeat (first | exact xAk | refine xAc (by repeat (first | exact .head _ | with_reducible assumption | apply mC | apply List.mem_append_left)) ?_)) (fun c' => ?_) xCd
            simp only [Act.put, kA, kB, List.setIfInBounds_toArray]
            refine f_at [7] (by decide +kernel) rfl ?_
            refine f_is 7 ?_
            refine f_appOne (R0 := (c', .cells [.int .u64 0, .int .u64 0, .int .u64 0, .int .u64 0].toArray 24) :: (b21, .cells (nl sv).toArray 24) :: (b19, .cells (nl sv).toArray 24) :: (b13, .cells (nl pw).toArray 24) :: (b9, .cells (nl bv).toArray 24) :: (b7, .cells (nl av).toArray 24) :: (b5, .cells (nl2 xv c).toArray 37) :: (b4, .cells [.slice a i cp, .slice b i cq].toArray 36) :: (b3, .cells (gl p q g h).toArray 26) :: (X0.bl ++ Y0.bl)) rfl rfl rfl rfl rfl rfl (pB _ _ _ _) (hZ1 Z hZ) hvZ.out hk2 (by repeat (first | exact xAk | refine xAc (by repeat (first | exact .head _ | with_reducible assumption | apply mC | apply List.mem_append_left)) ?_)) (fun Z2 hZ2 => ?_) xCd
            simp only [Act.put, kA, kB, List.setIfInBounds_toArray]
            refine f_at [10] (by decide +kernel) rfl ?_
            refine f_is 10 ?_
            refine f_y rfl rfl (xBv rfl rfl rfl (xBl Try.func10 (by kernel_rfl) (by kernel_rfl) _) (fun w hw => cD _ w Z2 hZ2 (fun p' hp' => List.mem_append_right (_ :: _) hp') hw)) (by repeat (first | exact xAk | refine xAc (by repeat (first | exact .head _ | with_reducible assumption | apply mC | apply List.mem_append_left)) ?_)) ?_ xCd
            simp only [Act.put, kA, kB, List.setIfInBounds_toArray]
            (refine xCi [(b5, Obj.cells (nl2 xv c).toArray 37), (b4, Obj.cells [Value.slice a i cp, Value.slice b i cq].toArray 36), (b3, Obj.cells (gl p q g h).toArray 26)] [2, 2, 2, 2, 2, 2, 2, 2, 2, 2, 2, 1, 1, 1, 2, 2, 2] 2 rfl (by repeat (first | exact xAk | refine xAc (by repeat (first | exact .head _ | with_reducible assumption | apply mC)) ?_)) (by repeat (first | exact xAk | refine xAc (by repeat (first | exact .head _ | with_reducible assumption | apply mC)) ?_)) rfl (by decide +kernel) (fun K hK => ?_); (repeat ((first | (refine xBj ?_) | (refine' xAq (by decide) rfl (.inl rfl) rfl ?ha ?_) | (refine' xAq (by decide) rfl (.inr rfl) rfl ?ha ?_) | (refine' xAm rfl rfl rfl inferInstance ?hm ?hn ?ha ?_; (case hm => first | with_reducible assumption | repeat (first | exact .head _ | with_reducible assumption | apply mC)); (case hn => first | rfl | simp)) | (refine' xAi rfl rfl rfl inferInstance ?hm ?hv ?hn ?ha ?_; (case hm => first | with_reducible assumption | repeat (first | exact .head _ | with_reducible assumption | apply mC)); (case hv => first | with_reducible assumption | (simp only [kC, kD, kE, kF]; try rfl)); (case hn => first | rfl | simp)) | (refine' xAg rfl rfl rfl inferInstance ?hm ?hv ?ha ?_; (case hm => first | with_reducible assumption | repeat (first | exact .head _ | with_reducible assumption | apply mC)); (case hv => first | rfl | with_reducible assumption)) | (refine' xAj rfl rfl rfl inferInstance ?hm ?hv ?hn ?ha ?_; (case hm => first | with_reducible assumption | repeat (first | exact .head _ | with_reducible assumption | apply mC)); (case hv => first | with_reducible assumption | (simp only [kC, kD, kE, kF]; try rfl)); (case hn => first | rfl | simp)) | (refine' xAh rfl rfl rfl inferInstance ?hm ?hv ?ha ?_; (case hm => first | with_reducible assumption | repeat (first | exact .head _ | with_reducible assumption | apply mC)); (case hv => first | rfl | with_reducible assumption)) | ((first | refine' xAe (by decide) rfl rfl rfl rfl (fun w => ?hq) ?ha ?_ | refine' xAx (by decide) rfl rfl rfl rfl (fun w => ?hq) ?ha ?_ | refine' xAn (by decide) rfl rfl rfl (fun w => ?hq) ?ha ?_ | refine' xAd (by decide) rfl rfl rfl (fun w => ?hq) ?ha ?_ | refine' xAl (by decide) rfl rfl rfl (fun w => ?hq) ?ha ?_ | refine' xAz (by decide) rfl rfl rfl rfl (fun w => ?hq) ?ha ?_ | refine' xAw (by decide) rfl rfl rfl rfl rfl rfl (fun w => ?hq) ?ha ?_ | refine' xAy (by decide) rfl rfl (fun w => ?hq) ?ha ?_ | refine' xAo (by decide) rfl rfl rfl (fun w => ?hq) ?ha ?_ | refine' xBa (by decide) rfl rfl rfl (fun w => ?hq) ?ha ?_); (case hq => go_simp; try rfl)) | (refine' xAf (by decide) rfl rfl rfl ?ha ?_) | (refine' xBh (by decide) rfl rfl rfl rfl ?ha ?_) | (refine' xBi (by decide) rfl ?ha ?_) | fail); try (case ha => simp only [kP, kQ, kA, kB]; try rfl))); refine xBo (hK _ _ ?_); clear hK K)
            try simp only [Act.put, kA, kB, List.setIfInBounds_toArray]
            refine f_at [15] (by decide +kernel) rfl ?_
            refine f_is 15 ?_
            refine' f_s rfl rfl (xBw (l := [.int .u64 0, .int .u64 0, .int .u64 0, .int .u64 0]) rfl rfl rfl inferInstance rfl rfl rfl rfl ?hs) ?hk ?_ xCd
            (case hs => repeat (first | exact xAv.head | with_reducible assumption | apply xAv.tail))
            (case hk => exact (by repeat (first | exact xAk | refine xAc (by repeat (first | exact .head _ | with_reducible assumption | apply mC | apply List.mem_append_left)) ?_)))
            refine f_at [16] (by decide +kernel) rfl ?_
            refine f_is 16 ?_
            refine f_y rfl rfl (xBg rfl (.inl rfl) rfl) (by repeat (first | exact xAk | refine xAc (by repeat (first | exact .head _ | with_reducible assumption | apply mC | apply List.mem_append_left)) ?_)) ?_ xCd
            simp only [Act.put, kA, kB, List.setIfInBounds_toArray]
            refine f_end (by decide +kernel) (fun w hR => ?_)
            simp only [Exit.then]
            exact hQ'.out _ _ ⟨c', xBd rfl rfl rfl, hR.weaken (List.sublist_append_left (_ :: _) _)⟩
          refine f_is 14 ?_
          refine f_new rfl rfl (xCj rfl rfl) (by repeat (first | exact xAk | refine xAc (by repeat (first | exact .head _ | with_reducible assumption | apply mC | apply List.mem_append_left)) ?_)) (fun c' => ?_) xCd
          simp only [Act.put, kA, kB, List.setIfInBounds_toArray]
          refine f_at [3] (by decide +kernel) rfl ?_
          refine f_is 3 ?_
          refine f_appAll rfl rfl rfl rfl rfl rfl S1.out hk3 (by repeat (first | exact xAk | refine xAc (by repeat (first | exact .head _ | with_reducible assumption | apply mC | apply List.mem_append_left)) ?_)) (fun Z hZ => ?_) xCd
          simp only [Act.put, kA, kB, List.setIfInBounds_toArray]
          refine f_at [7] (by decide +kernel) rfl ?_
          refine f_is 7 ?_
          refine f_appOne (R0 := (c', .cells [.int .u64 0, .int .u64 0, .int .u64 0, .int .u64 0].toArray 24) :: (b21, .cells (nl sv).toArray 24) :: (b19, .cells (nl sv).toArray 24) :: (b13, .cells (nl pw).toArray 24) :: (b9, .cells (nl bv).toArray 24) :: (b7, .cells (nl av).toArray 24) :: (b5, .cells (nl2 xv c).toArray 37) :: (b4, .cells [.slice a i cp, .slice b i cq].toArray 36) :: (b3, .cells (gl p q g h).toArray 26) :: (X0.bl ++ Y0.bl)) rfl rfl rfl rfl rfl rfl (pB _ _ _ _) (hZ1 Z hZ) hvZ.out hk2 (by repeat (first | exact xAk | refine xAc (by repeat (first | exact .head _ | with_reducible assumption | apply mC | apply List.mem_append_left)) ?_)) (fun Z2 hZ2 => ?_) xCd
          simp only [Act.put, kA, kB, List.setIfInBounds_toArray]
          refine f_at [10] (by decide +kernel) rfl ?_
          refine f_is 10 ?_
          refine f_y rfl rfl (xBv rfl rfl rfl (xBl Try.func10 (by kernel_rfl) (by kernel_rfl) _) (fun w hw => cD _ w Z2 hZ2 (fun p' hp' => List.mem_append_right (_ :: _) hp') hw)) (by repeat (first | exact xAk | refine xAc (by repeat (first | exact .head _ | with_reducible assumption | apply mC | apply List.mem_append_left)) ?_)) ?_ xCd
          simp only [Act.put, kA, kB, List.setIfInBounds_toArray]
          (refine xCi [(b5, Obj.cells (nl2 xv c).toArray 37), (b4, Obj.cells [Value.slice a i cp, Value.slice b i cq].toArray 36), (b3, Obj.cells (gl p q g h).toArray 26)] [2, 2, 2, 2, 2, 2, 2, 2, 2, 2, 2, 1, 1, 1, 2, 2, 2] 2 rfl (by repeat (first | exact xAk | refine xAc (by repeat (first | exact .head _ | with_reducible assumption | apply mC)) ?_)) (by repeat (first | exact xAk | refine xAc (by repeat (first | exact .head _ | with_reducible assumption | apply mC)) ?_)) rfl (by decide +kernel) (fun K hK => ?_); (repeat ((first | (refine xBj ?_) | (refine' xAq (by decide) rfl (.inl rfl) rfl ?ha ?_) | (refine' xAq (by decide) rfl (.inr rfl) rfl ?ha ?_) | (refine' xAm rfl rfl rfl inferInstance ?hm ?hn ?ha ?_; (case hm => first | with_reducible assumption | repeat (first | exact .head _ | with_reducible assumption | apply mC)); (case hn => first | rfl | simp)) | (refine' xAi rfl rfl rfl inferInstance ?hm ?hv ?hn ?ha ?_; (case hm => first | with_reducible assumption | repeat (first | exact .head _ | with_reducible assumption | apply mC)); (case hv => first | with_reducible assumption | (simp only [kC, kD, kE, kF]; try rfl)); (case hn => first | rfl | simp)) | (refine' xAg rfl rfl rfl inferInstance ?hm ?hv ?ha ?_; (case hm => first | with_reducible assumption | repeat (first | exact .head _ | with_reducible assumption | apply mC)); (case hv => first | rfl | with_reducible assumption)) | (refine' xAj rfl rfl rfl inferInstance ?hm ?hv ?hn ?ha ?_; (case hm => first | with_reducible assumption | repeat (first | exact .head _ | with_reducible assumption | apply mC)); (case hv => first | with_reducible assumption | (simp only [kC, kD, kE, kF]; try rfl)); (case hn => first | rfl | simp)) | (refine' xAh rfl rfl rfl inferInstance ?hm ?hv ?ha ?_; (case hm => first | with_reducible assumption | repeat (first | exact .head _ | with_reducible assumption | apply mC)); (case hv => first | rfl | with_reducible assumption)) | ((first | refine' xAe (by decide) rfl rfl rfl rfl (fun w => ?hq) ?ha ?_ | refine' xAx (by decide) rfl rfl rfl rfl (fun w => ?hq) ?ha ?_ | refine' xAn (by decide) rfl rfl rfl (fun w => ?hq) ?ha ?_ | refine' xAd (by decide) rfl rfl rfl (fun w => ?hq) ?ha ?_ | refine' xAl (by decide) rfl rfl rfl (fun w => ?hq) ?ha ?_ | refine' xAz (by decide) rfl rfl rfl rfl (fun w => ?hq) ?ha ?_ | refine' xAw (by decide) rfl rfl rfl rfl rfl rfl (fun w => ?hq) ?ha ?_ | refine' xAy (by decide) rfl rfl (fun w => ?hq) ?ha ?_ | refine' xAo (by decide) rfl rfl rfl (fun w => ?hq) ?ha ?_ | refine' xBa (by decide) rfl rfl rfl (fun w => ?hq) ?ha ?_); (case hq => go_simp; try rfl)) | (refine' xAf (by decide) rfl rfl rfl ?ha ?_) | (refine' xBh (by decide) rfl rfl rfl rfl ?ha ?_) | (refine' xBi (by decide) rfl ?ha ?_) | fail); try (case ha => simp only [kP, kQ, kA, kB]; try rfl))); refine xBo (hK _ _ ?_); clear hK K)
          try simp only [Act.put, kA, kB, List.setIfInBounds_toArray]
          refine f_at [15] (by decide +kernel) rfl ?_
          refine f_is 15 ?_
          refine' f_s rfl rfl (xBw (l := [.int .u64 0, .int .u64 0, .int .u64 0, .int .u64 0]) rfl rfl rfl inferInstance rfl rfl rfl rfl ?hs) ?hk ?_ xCd
          (case hs => repeat (first | exact xAv.head | with_reducible assumption | apply xAv.tail))
          (case hk => exact (by repeat (first | exact xAk | refine xAc (by repeat (first | exact .head _ | with_reducible assumption | apply mC | apply List.mem_append_left)) ?_)))
          refine f_at [16] (by decide +kernel) rfl ?_
          refine f_is 16 ?_
          refine f_y rfl rfl (xBg rfl (.inl rfl) rfl) (by repeat (first | exact xAk | refine xAc (by repeat (first | exact .head _ | with_reducible assumption | apply mC | apply List.mem_append_left)) ?_)) ?_ xCd
          simp only [Act.put, kA, kB, List.setIfInBounds_toArray]
          refine f_end (by decide +kernel) (fun w hR => ?_)
          simp only [Exit.then]
          exact hQ'.out _ _ ⟨c', xBd rfl rfl rfl, hR.weaken (List.sublist_append_left (_ :: _) _)⟩
        refine f_is 14 ?_
        refine f_new rfl rfl (xCj rfl rfl) (by repeat (first | exact xAk | refine xAc (by repeat (first | exact .head _ | with_reducible assumption | apply mC | apply List.mem_append_left)) ?_)) (fun c' => ?_) xCd
        simp only [Act.put, kA, kB, List.setIfInBounds_toArray]
        refine f_at [3, 6] (by decide +kernel) rfl ?_
        refine f_is 3 ?_
        refine f_appAll rfl rfl rfl rfl rfl rfl S1.out hk3 (by repeat (first | exact xAk | refine xAc (by repeat (first | exact .head _ | with_reducible assumption | apply mC | apply List.mem_append_left)) ?_)) (fun Z hZ => ?_) ?_
        · simp only [Act.put, kA, kB, List.setIfInBounds_toArray]
          refine f_at [6] (by decide +kernel) rfl ?_
          refine f_is 6 ?_
          refine f_new rfl rfl (isNew_nums1 rfl rfl rfl) (by repeat (first | exact xAk | refine xAc (by repeat (first | exact .head _ | with_reducible assumption | apply mC | apply List.mem_append_left)) ?_)) (fun bt => ?_) xCd
          simp only [Act.put, kA, kB, List.setIfInBounds_toArray]
          refine f_at [7] (by decide +kernel) rfl ?_
          refine f_is 7 ?_
          refine f_appOne (R0 := (c', .cells [.int .u64 0, .int .u64 0, .int .u64 0, .int .u64 0].toArray 24) :: (b21, .cells (nl sv).toArray 24) :: (b19, .cells (nl sv).toArray 24) :: (b13, .cells (nl pw).toArray 24) :: (b9, .cells (nl bv).toArray 24) :: (b7, .cells (nl av).toArray 24) :: (b5, .cells (nl2 xv c).toArray 37) :: (b4, .cells [.slice a i cp, .slice b i cq].toArray 36) :: (b3, .cells (gl p q g h).toArray 26) :: (X0.bl ++ Y0.bl)) rfl rfl rfl rfl rfl rfl (pC (_ :: _) _ _) (hZ1 Z hZ) hvZ.out hk2 (by repeat (first | exact xAk | refine xAc (by repeat (first | exact .head _ | with_reducible assumption | apply mC | apply List.mem_append_left)) ?_)) (fun Z2 hZ2 => ?_) xCd
          simp only [Act.put, kA, kB, List.setIfInBounds_toArray]
          refine f_at [10] (by decide +kernel) rfl ?_
          refine f_is 10 ?_
          refine f_y rfl rfl (xBv rfl rfl rfl (xBl Try.func10 (by kernel_rfl) (by kernel_rfl) _) (fun w hw => cD _ w Z2 hZ2 (fun p' hp' => List.mem_append_right (_ :: _) hp') hw)) (by repeat (first | exact xAk | refine xAc (by repeat (first | exact .head _ | with_reducible assumption | apply mC | apply List.mem_append_left)) ?_)) ?_ xCd
          simp only [Act.put, kA, kB, List.setIfInBounds_toArray]
          (refine xCi [(b5, Obj.cells (nl2 xv c).toArray 37), (b4, Obj.cells [Value.slice a i cp, Value.slice b i cq].toArray 36), (b3, Obj.cells (gl p q g h).toArray 26)] [2, 2, 2, 2, 2, 2, 2, 2, 2, 2, 2, 1, 1, 1, 2, 2, 2] 2 rfl (by repeat (first | exact xAk | refine xAc (by repeat (first | exact .head _ | with_reducible assumption | apply mC)) ?_)) (by repeat (first | exact xAk | refine xAc (by repeat (first | exact .head _ | with_reducible assumption | apply mC)) ?_)) rfl (by decide +kernel) (fun K hK => ?_); (repeat ((first | (refine xBj ?_) | (refine' xAq (by decide) rfl (.inl rfl) rfl ?ha ?_) | (refine' xAq (by decide) rfl (.inr rfl) rfl ?ha ?_) | (refine' xAm rfl rfl rfl inferInstance ?hm ?hn ?ha ?_; (case hm => first | with_reducible assumption | repeat (first | exact .head _ | with_reducible assumption | apply mC)); (case hn => first | rfl | simp)) | (refine' xAi rfl rfl rfl inferInstance ?hm ?hv ?hn ?ha ?_; (case hm => first | with_reducible assumption | repeat (first | exact .head _ | with_reducible assumption | apply mC)); (case hv => first | with_reducible assumption | (simp only [kC, kD, kE, kF]; try rfl)); (case hn => first | rfl | simp)) | (refine' xAg rfl rfl rfl inferInstance ?hm ?hv ?ha ?_; (case hm => first | with_reducible assumption | repeat (first | exact .head _ | with_reducible assumption | apply mC)); (case hv => first | rfl | with_reducible assumption)) | (refine' xAj rfl rfl rfl inferInstance ?hm ?hv ?hn ?ha ?_; (case hm => first | with_reducible assumption | repeat (first | exact .head _ | with_reducible assumption | apply mC)); (case hv => first | with_reducible assumption | (simp only [kC, kD, kE, kF]; try rfl)); (case hn => first | rfl | simp)) | (refine' xAh rfl rfl rfl inferInstance ?hm ?hv ?ha ?_; (case hm => first | with_reducible assumption | repeat (first | exact .head _ | with_reducible assumption | apply mC)); (case hv => first | rfl | with_reducible assumption)) | ((first | refine' xAe (by decide) rfl rfl rfl rfl (fun w => ?hq) ?ha ?_ | refine' xAx (by decide) rfl rfl rfl rfl (fun w => ?hq) ?ha ?_ | refine' xAn (by decide) rfl rfl rfl (fun w => ?hq) ?ha ?_ | refine' xAd (by decide) rfl rfl rfl (fun w => ?hq) ?ha ?_ | refine' xAl (by decide) rfl rfl rfl (fun w => ?hq) ?ha ?_ | refine' xAz (by decide) rfl rfl rfl rfl (fun w => ?hq) ?ha ?_ | refine' xAw (by decide) rfl rfl rfl rfl rfl rfl (fun w => ?hq) ?ha ?_ | refine' xAy (by decide) rfl rfl (fun w => ?hq) ?ha ?_ | refine' xAo (by decide) rfl rfl rfl (fun w => ?hq) ?ha ?_ | refine' xBa (by decide) rfl rfl rfl (fun w => ?hq) ?ha ?_); (case hq => go_simp; try rfl)) | (refine' xAf (by decide) rfl rfl rfl ?ha ?_) | (refine' xBh (by decide) rfl rfl rfl rfl ?ha ?_) | (refine' xBi (by decide) rfl ?ha ?_) | fail); try (case ha => simp only [kP, kQ, kA, kB]; try rfl))); refine xBo (hK _ _ ?_); clear hK K)
          try simp only [Act.put, kA, kB, List.setIfInBounds_toArray]
          refine f_at [15] (by decide +kernel) rfl ?_
          refine f_is 15 ?_
          refine' f_s rfl rfl (xBw (l := [.int .u64 0, .int .u64 0, .int .u64 0, .int .u64 0]) rfl rfl rfl inferInstance rfl rfl rfl rfl ?hs) ?hk ?_ xCd
          (case hs => repeat (first | exact xAv.head | with_reducible assumption | apply xAv.tail))
          (case hk => exact (by repeat (first | exact xAk | refine xAc (by repeat (first | exact .head _ | with_reducible assumption | apply mC | apply List.mem_append_left)) ?_)))
          refine f_at [16] (by decide +kernel) rfl ?_
          refine f_is 16 ?_
          refine f_y rfl rfl (xBg rfl (.inl rfl) rfl) (by repeat (first | exact xAk | refine xAc (by repeat (first | exact .head _ | with_reducible assumption | apply mC | apply List.mem_append_left)) ?_)) ?_ xCd
          simp only [Act.put, kA, kB, List.setIfInBounds_toArray]
          refine f_end (by decide +kernel) (fun w hR => ?_)
          simp only [Exit.then]
          exact hQ'.out _ _ ⟨c', xBd rfl rfl rfl, hR.weaken (List.sublist_append_left (_ :: _) _)⟩
        refine f_is 6 ?_
        refine f_new rfl rfl (isNew_nums1 rfl rfl rfl) (by repeat (first | exact xAk | refine xAc (by repeat (first | exact .head _ | with_reducible assumption | apply mC | apply List.mem_append_left)) ?_)) (fun bt => ?_) xCd
        simp only [Act.put, kA, kB, List.setIfInBounds_toArray]
        refine f_at [3] (by decide +kernel) rfl ?_
        refine f_is 3 ?_
        refine f_appAll rfl rfl rfl rfl rfl rfl S1.out hk3 (by repeat (first | exact xAk | refine xAc (by repeat (first | exact .head _ | with_reducible assumption | apply mC | apply List.mem_append_left)) ?_)) (fun Z hZ => ?_) xCd
        simp only [Act.put, kA, kB, List.setIfInBounds_toArray]
        refine f_at [7] (by decide +kernel) rfl ?_
        refine f_is 7 ?_
        refine f_appOne (R0 := (c', .cells [.int .u64 0, .int .u64 0, .int .u64 0, .int .u64 0].toArray 24) :: (b21, .cells (nl sv).toArray 24) :: (b19, .cells (nl sv).toArray 24) :: (b13, .cells (nl pw).toArray 24) :: (b9, .cells (nl bv).toArray 24) :: (b7, .cells (nl av).toArray 24) :: (b5, .cells (nl2 xv c).toArray 37) :: (b4, .cells [.slice a i cp, .slice b i cq].toArray 36) :: (b3, .cells (gl p q g h).toArray 26) :: (X0.bl ++ Y0.bl)) rfl rfl rfl rfl rfl rfl (pC (_ :: _) _ _) (hZ1 Z hZ) hvZ.out hk2 (by repeat (first | exact xAk | refine xAc (by repeat (first | exact .head _ | with_reducible assumption | apply mC | apply List.mem_append_left)) ?_)) (fun Z2 hZ2 => ?_) xCd
        simp only [Act.put, kA, kB, List.setIfInBounds_toArray]
        refine f_at [10] (by decide +kernel) rfl ?_
        refine f_is 10 ?_
        refine f_y rfl rfl (xBv rfl rfl rfl (xBl Try.func10 (by kernel_rfl) (by kernel_rfl) _) (fun w hw => cD _ w Z2 hZ2 (fun p' hp' => List.mem_append_right (_ :: _) hp') hw)) (by repeat (first | exact xAk | refine xAc (by repeat (first | exact .head _ | with_reducible assumption | apply mC | apply List.mem_append_left)) ?_)) ?_ xCd
        simp only [Act.put, kA, kB, List.setIfInBounds_toArray]
        (refine xCi [(b5, Obj.cells (nl2 xv c).toArray 37), (b4, Obj.cells [Value.slice a i cp, Value.slice b i cq].toArray 36), (b3, Obj.cells (gl p q g h).toArray 26)] [2, 2, 2, 2, 2, 2, 2, 2, 2, 2, 2, 1, 1, 1, 2, 2, 2] 2 rfl (by repeat (first | exact xAk | refine xAc (by repeat (first | exact .head _ | with_reducible assumption | apply mC)) ?_)) (by repeat (first | exact xAk | refine xAc (by repeat (first | exact .head _ | with_reducible assumption | apply mC)) ?_)) rfl (by decide +kernel) (fun K hK => ?_); (repeat ((first | (refine xBj ?_) | (refine' xAq (by decide) rfl (.inl rfl) rfl ?ha ?_) | (refine' xAq (by decide) rfl (.inr rfl) rfl ?ha ?_) | (refine' xAm rfl rfl rfl inferInstance ?hm ?hn ?ha ?_; (case hm => first | with_reducible assumption | repeat (first | exact .head _ | with_reducible assumption | apply mC)); (case hn => first | rfl | simp)) | (refine' xAi rfl rfl rfl inferInstance ?hm ?hv ?hn ?ha ?_; (case hm => first | with_reducible assumption | repeat (first | exact .head _ | with_reducible assumption | apply mC)); (case hv => first | with_reducible assumption | (simp only [kC, kD, kE, kF]; try rfl)); (case hn => first | rfl | simp)) | (refine' xAg rfl rfl rfl inferInstance ?hm ?hv ?ha ?_; (case hm => first | with_reducible assumption | repeat (first | exact .head _ | with_reducible assumption | apply mC)); (case hv => first | rfl | with_reducible assumption)) | (refine' xAj rfl rfl rfl inferInstance ?hm ?hv ?hn ?ha ?_; (case hm => first | with_reducible assumption | repeat (first | exact .head _ | with_reducible assumption | apply mC)); (case hv => first | with_reducible assumption | (simp only [kC, kD, kE, kF]; try rfl)); (case hn => first | rfl | simp)) | (refine' xAh rfl rfl rfl inferInstance ?hm ?hv ?ha ?_; (case hm => first | with_reducible assumption | repeat (first | exact .head _ | with_reducible assumption | apply mC)); (case hv => first | rfl | with_reducible assumption)) | ((first | refine' xAe (by decide) rfl rfl rfl rfl (fun w => ?hq) ?ha ?_ | refine' xAx (by decide) rfl rfl rfl rfl (fun w => ?hq) ?ha ?_ | refine' xAn (by decide) rfl rfl rfl (fun w => ?hq) ?ha ?_ | refine' xAd (by decide) rfl rfl rfl (fun w => ?hq) ?ha ?_ | refine' xAl (by decide) rfl rfl rfl (fun w => ?hq) ?ha ?_ | refine' xAz (by decide) rfl rfl rfl rfl (fun w => ?hq) ?ha ?_ | refine' xAw (by decide) rfl rfl rfl rfl rfl rfl (fun w => ?hq) ?ha ?_ | refine' xAy (by decide) rfl rfl (fun w => ?hq) ?ha ?_ | refine' xAo (by decide) rfl rfl rfl (fun w => ?hq) ?ha ?_ | refine' xBa (by decide) rfl rfl rfl (fun w => ?hq) ?ha ?_); (case hq => go_simp; try rfl)) | (refine' xAf (by decide) rfl rfl rfl ?ha ?_) | (refine' xBh (by decide) rfl rfl rfl rfl ?ha ?_) | (refine' xBi (by decide) rfl ?ha ?_) | fail); try (case ha => simp only [kP, kQ, kA, kB]; try rfl))); refine xBo (hK _ _ ?_); clear hK K)
        try simp only [Act.put, kA, kB, List.setIfInBounds_toArray]
        refine f_at [15] (by decide +kernel) rfl ?_
        refine f_is 15 ?_
        refine' f_s rfl rfl (xBw (l := [.int .u64 0, .int .u64 0, .int .u64 0, .int .u64 0]) rfl rfl rfl inferInstance rfl rfl rfl rfl ?hs) ?hk ?_ xCd
        (case hs => repeat (first | exact xAv.head | with_reducible assumption | apply xAv.tail))
        (case hk => exact (by repeat (first | exact xAk | refine xAc (by repeat (first | exact .head _ | with_reducible assumption | apply mC | apply List.mem_append_left)) ?_)))
        refine f_at [16] (by decide +kernel) rfl ?_
        refine f_is 16 ?_
        refine f_y rfl rfl (xBg rfl (.inl rfl) rfl) (by repeat (first | exact xAk | refine xAc (by repeat (first | exact .head _ | with_reducible assumption | apply mC | apply List.mem_append_left)) ?_)) ?_ xCd
        simp only [Act.put, kA, kB, List.setIfInBounds_toArray]
        refine f_end (by decide +kernel) (fun w hR => ?_)
        simp only [Exit.then]
        exact hQ'.out _ _ ⟨c', xBd rfl rfl rfl, hR.weaken (List.sublist_append_left (_ :: _) _)⟩
      case r2 =>
        clear hR
        rename_i K5 k5
        rintro tm w ⟨c', ht, hR⟩
        repeat (first | (obtain ⟨x, tm', e, ht'⟩ := xAr ht; clear ht; subst e; have ht := ht'; clear ht') | (obtain ⟨tm', e, ht'⟩ := xAp ht; clear ht; subst e; have ht := ht'; clear ht'))
        obtain rfl := xAu ht
        clear ht
        simp only [Exit.then]
        refine k5 _ _ ?_
        clear cD hZ1 cSum wS S1
        rcases hdj.out with ⟨hcq, hdv, rfl⟩ | ⟨hcq, rfl, rfl⟩
        · rcases hlk.out with ⟨_, hlv, rfl⟩ | ⟨hh, _, _⟩
          case inr => exact absurd hcq hh
          have llv : lv < q := by rw [hlv]; exact mul_lt' h1.out _ _
          have hgr : (av + lv) % q = dv := by rw [hdv, sums_last h1.out hf.out hcq, ← hav.out, hpw.out, hlv]
          have cG := SA (p := p) (g := g) (h := h) hq h1.out la.out llv hgr
          have htt : mulN av c q = tv := by rw [← htv.out, sums_mul h1.out hf.out, hav.out]
          have cT := SM (p := p) (g := g) (h := h) hq h1.out la.out hcq htt
          have eqd : eqN dv dv = true := eqN_yes rfl
          have eqt : eqN tv tv = true := eqN_yes rfl
          clear hcq hdv hlv llv hgr htt hf hf2
          go_wp2_with (first | go_skip | (refine' xAb hR rfl rfl rfl ?_; clear hR; intro blk w hR) | (refine' xAa hR rfl rfl inferInstance ?_; clear hR; intro blk w hR) | (refine' aFq hR rfl rfl rfl inferInstance ?_) | (refine' aGq hR rfl rfl rfl inferInstance ?_) | (refine' aHq hR rfl rfl rfl inferInstance ?_) | (refine' aIq hR rfl rfl rfl inferInstance rfl ?_; clear hR; intro w hR) | (refine' aJq hR rfl rfl rfl inferInstance rfl rfl ?_; clear hR; intro w hR) | (refine' xBk hR rfl rfl rfl inferInstance ?hm ?hn ?_; (case hm => first | with_reducible assumption | repeat (first | exact .head _ | with_reducible assumption | apply mC)); (case hn => first | rfl | simp)) | (refine' xBe hR rfl rfl rfl inferInstance ?hm ?hv ?_; (case hm => first | with_reducible assumption | repeat (first | exact .head _ | with_reducible assumption | apply mC)); (case hv => first | rfl | with_reducible assumption)) | (refine' xBp hR rfl rfl rfl inferInstance ?hm ?hv ?hn ?_; (case hm => first | with_reducible assumption | repeat (first | exact .head _ | with_reducible assumption | apply mC)); (case hv => first | with_reducible assumption | (simp only [kC, kD, kE, kF]; try rfl)); (case hn => first | rfl | simp)) | (go_at_call 15; refine (cL _).mono ?_; rintro e w ⟨rfl, hb⟩; replace hR := hR.call hb; clear hb) | (go_at_call 15; refine (cT _).mono ?_; rintro e w ⟨rfl, hb⟩; replace hR := hR.call hb; clear hb) | (go_at_call 14; refine (cG _).mono ?_; rintro e w ⟨rfl, hb⟩; replace hR := hR.call hb; clear hb) | (go_at_call 10; refine (wT [_, _, _, _, _] _ hR).mono ?_; clear hR; rintro e w ⟨rfl, hR⟩; simp only [List.cons_append, List.nil_append] at hR))
          go_ret
          exact ⟨rfl, hR.below⟩
        · rcases hlk.out with ⟨hh, _, _⟩ | ⟨_, rfl, rfl⟩
          case inl => exact absurd hh hcq
          clear hcq hf hf2
          go_wp2_with (first | go_skip | (refine' xAb hR rfl rfl rfl ?_; clear hR; intro blk w hR) | (refine' xAa hR rfl rfl inferInstance ?_; clear hR; intro blk w hR) | (refine' aFq hR rfl rfl rfl inferInstance ?_) | (refine' aGq hR rfl rfl rfl inferInstance ?_) | (refine' aHq hR rfl rfl rfl inferInstance ?_) | (refine' aIq hR rfl rfl rfl inferInstance rfl ?_; clear hR; intro w hR) | (refine' aJq hR rfl rfl rfl inferInstance rfl rfl ?_; clear hR; intro w hR) | (refine' xBk hR rfl rfl rfl inferInstance ?hm ?hn ?_; (case hm => first | with_reducible assumption | repeat (first | exact .head _ | with_reducible assumption | apply mC)); (case hn => first | rfl | simp)) | (refine' xBe hR rfl rfl rfl inferInstance ?hm ?hv ?_; (case hm => first | with_reducible assumption | repeat (first | exact .head _ | with_reducible assumption | apply mC)); (case hv => first | rfl | with_reducible assumption)) | (refine' xBp hR rfl rfl rfl inferInstance ?hm ?hv ?hn ?_; (case hm => first | with_reducible assumption | repeat (first | exact .head _ | with_reducible assumption | apply mC)); (case hv => first | with_reducible assumption | (simp only [kC, kD, kE, kF]; try rfl)); (case hn => first | rfl | simp)) | (go_at_call 15; refine (cL _).mono ?_; rintro e w ⟨rfl, hb⟩; replace hR := hR.call hb; clear hb))
          go_ret
          exact ⟨rfl, hR.below⟩
    have g1 : (i : Int) < (n : Int) := by omega
    have hin : i < n := by omega
    have ek : ((i + 1 : Nat) : Int) = (i : Int) + 1 := by omega
    have ei : IntKind.i64.wrap ((i : Int) + 1) = (i : Int) + 1 := by have := hm1.out; rw [IntKind.wrap_i64]; omega
    have hi1 : i + 1 ≤ n := by omega
    have hmu : n - (i + 1) < n - i := by omega
    have hbig : i ≤ 1000000 := by have := hm1.out; omega
    have hfi : f i < q := hf.out i hin
    have hgi : f2 i < q := hf2.out i hin
    obtain ⟨bv1, ov1, rfl, hyv⟩ := S1.out.at' (by omega)
    obtain ⟨bv2, ov2, rfl, hyw⟩ := S2.out.at' (by omega)
    have ldf := fun (L : List (Nat × Obj)) (w : World) (hw : Rep W.heap.size W L w) => xCh (hyv w (hw.weaken (List.nil_sublist _)) i hin)
    have ldg := fun (L : List (Nat × Obj)) (w : World) (hw : Rep W.heap.size W L w) => xCh (hyw w (hw.weaken (List.nil_sublist _)) i hin)
    obtain ⟨s1, hs1⟩ : ∃ v, (f i + f2 i) % q = v := ⟨_, rfl⟩
    have c1 := SA (p := p) (g := g) (h := h) hq h1.out hfi hgi hs1
    obtain ⟨s2, e2, hse, c2⟩ : ∃ (s2 : Nat) (e2 : Int), ((c < q ∧ mulN (f i) c q = s2 ∧ e2 = 0) ∨ (¬ c < q ∧ e2 = 1)) ∧ ∀ w, Calls Try.prog 15 #[grp p q g h, num (f i), num c] w fun e w' => e = .returned (.tuple #[num s2, .int .i64 e2]) ∧ Below w.heap.size w w' := by
      by_cases hcq : c < q
      · exact ⟨_, 0, .inl ⟨hcq, rfl, rfl⟩, SM (p := p) (g := g) (h := h) hq h1.out hfi hcq rfl⟩
      · exact ⟨0, 1, .inr ⟨hcq, rfl⟩, smul_lit (p := p) (g := g) (h := h) (Nat.lt_trans hfi hq) hc hq (if_neg fun hh => hcq hh.2.2) (if_neg fun hh => hcq hh.2.2)⟩
    obtain ⟨pv, hpv⟩ : ∃ v, powS q xv (i + 1) = v := ⟨_, rfl⟩
    have cP := SM (p := p) (g := g) (h := h) hq h1.out lpw hxq.out (show mulN pw xv q = pv by rw [← hpv, powS, hpw])
    generalize hfv : f i = fv at c1 c2 ldf hfi hs1 hse
    generalize hgv : f2 i = gv at c1 ldg hgi hs1
    replace hi1 := Held.mk hi1
    replace hmu := Held.mk hmu
    replace ek := Held.mk ek
    replace hs1 := Held.mk hs1
    replace hse := Held.mk hse
    replace hfv := Held.mk hfv
    replace hgv := Held.mk hgv
    replace hpw := Held.mk hpw
    replace hpv := Held.mk hpv
    replace lpw := Held.mk lpw
    clear hyv hyw hi hik hfi hgi hcz
    repeat (first | (obtain ⟨x, tm', e, ht'⟩ := xAr ht; clear ht; subst e; have ht := ht'; clear ht') | (obtain ⟨tm', e, ht'⟩ := xAp ht; clear ht; subst e; have ht := ht'; clear ht'))
    obtain rfl := xAu ht
    clear ht
    go_wp2_with (first | go_skip | (refine' xAb hR rfl rfl rfl ?_; clear hR; intro blk w hR) | (refine' xAa hR rfl rfl inferInstance ?_; clear hR; intro blk w hR) | (refine' aFq hR rfl rfl rfl inferInstance ?_) | (refine' aGq hR rfl rfl rfl inferInstance ?_) | (refine' aHq hR rfl rfl rfl inferInstance ?_) | (refine' aIq hR rfl rfl rfl inferInstance rfl ?_; clear hR; intro w hR) | (refine' aJq hR rfl rfl rfl inferInstance rfl rfl ?_; clear hR; intro w hR) | (refine' xBk hR rfl rfl rfl inferInstance ?hm ?hn ?_; (case hm => first | with_reducible assumption | repeat (first | exact .head _ | with_reducible assumption | apply mC)); (case hn => first | rfl | simp)) | (refine' xBe hR rfl rfl rfl inferInstance ?hm ?hv ?_; (case hm => first | with_reducible assumption | repeat (first | exact .head _ | with_reducible assumption | apply mC)); (case hv => first | rfl | with_reducible assumption)) | (refine' xBp hR rfl rfl rfl inferInstance ?hm ?hv ?hn ?_; (case hm => first | with_reducible assumption | repeat (first | exact .head _ | with_reducible assumption | apply mC)); (case hv => first | with_reducible assumption | (simp only [kC, kD, kE, kF]; try rfl)); (case hn => first | rfl | simp)) | fail)
    try simp only [Act.put, kA, kB, List.setIfInBounds_toArray]
    refine cut_code (fun l tm w' => ∃ c', agree (false :: false :: false :: false :: false :: false :: false :: false :: false :: false :: false :: false :: false :: false :: false :: false :: false :: false :: false :: false :: false :: false :: false :: false :: false :: false :: false :: false :: false :: false :: false :: false :: false :: false :: false :: false :: false :: false :: false :: false :: false :: false :: false :: false :: false :: false :: false :: false :: false :: false :: false :: false :: false :: false :: false :: false :: false :: false :: false :: false :: false :: false :: false :: false :: false :: false :: false :: false :: false :: false :: false :: false :: false :: false :: false :: false :: false :: false :: false :: false :: false :: false :: false :: false :: false :: false :: false :: false :: false :: false :: true :: true :: true :: true :: true :: true :: true :: true :: true :: true :: true :: true :: true :: true :: true :: false :: false :: false :: false :: false :: false :: false :: false :: false :: false :: false :: false :: false :: false :: false :: false :: false :: false :: false :: false :: false :: false :: false :: false :: false :: false :: false :: false :: false :: false :: false :: false :: false :: false :: false :: false :: false :: false :: false :: false :: false :: false :: false :: false :: false :: false :: false :: false :: false :: false :: false :: false :: false :: false :: false :: false :: false :: false :: false :: false :: false :: false :: false :: false :: false :: false :: false :: false :: false :: false :: false :: false :: false :: false :: false :: false :: false :: false :: false :: false :: false :: false :: false :: false :: false :: false :: false :: false :: false :: false :: false :: false :: false :: false :: false :: false :: false :: false :: false :: false :: false :: false :: false :: false :: false :: false :: false :: false :: false :: false :: false :: false :: false :: false :: false :: false :: false :: false :: false :: false :: false :: false :: false :: false :: false :: false :: false :: false :: false :: false :: false :: false :: false :: false :: false :: false :: false :: false :: false :: []) ((l.set 15 (.pointer (some ⟨c', 0, none⟩))).set 16 (.int .i64 0)) tm ∧ Rep W.heap.size W ((c', .cells (nl s1).toArray 24) :: (b13, .cells (nl pw).toArray 24) :: (b9, .cells (nl bv).toArray 24) :: (b7, .cells (nl av).toArray 24) :: (b5, .cells (nl2 xv c).toArray 37) :: (b4, .cells [.slice (some ⟨bv1, ov1, none⟩) n cp, .slice (some ⟨bv2, ov2, none⟩) n cq].toArray 36) :: (b3, .cells (gl p q g h).toArray 26) :: (X0.bl ++ Y0.bl)) w') ?r1 ?r2
    case r1 =>
      intro Q' hQ'
      refine xBy hR 18 xCo rfl ?_
      clear hR
      refine xCi [(b5, Obj.cells (nl2 xv c).toArray 37), (b4, Obj.cells [Value.slice (some ⟨bv1, ov1, none⟩) n cp, Value.slice (some ⟨bv2, ov2, none⟩) n cq].toArray 36), (b3, Obj.cells (gl p q g h).toArray 26)] [1, 1, 1, 1, 1, 1, 1, 1, 1, 1, 1, 2, 2, 2, 2, 2, 2, 2] 7 rfl (by repeat (first | exact xAk | refine xAc (by repeat (first | exact .head _ | with_reducible assumption | apply mC)) ?_)) (by repeat (first | exact xAk | refine xAc (by repeat (first | exact .head _ | with_reducible assumption | apply mC)) ?_)) rfl (by decide +kernel) (fun K hK => ?_)
      repeat ((first | (refine' xCm rfl rfl rfl inferInstance ?hm ?hn ?ha ?_; (case hm => exact .tail _ (.tail _ (.head _))); (case hn => rfl)) | (refine' hd_loadKP rfl rfl rfl ldf ?ha ?_) | (refine' hd_loadKP rfl rfl rfl ldg ?ha ?_) | (refine xBj ?_) | (refine' xAq (by decide) rfl (.inl rfl) rfl ?ha ?_) | (refine' xAq (by decide) rfl (.inr rfl) rfl ?ha ?_) | (refine' xAm rfl rfl rfl inferInstance ?hm ?hn ?ha ?_; (case hm => first | with_reducible assumption | repeat (first | exact .head _ | with_reducible assumption | apply mC)); (case hn => first | rfl | simp)) | (refine' xAi rfl rfl rfl inferInstance ?hm ?hv ?hn ?ha ?_; (case hm => first | with_reducible assumption | repeat (first | exact .head _ | with_reducible assumption | apply mC)); (case hv => first | with_reducible assumption | (simp only [kC, kD, kE, kF]; try rfl)); (case hn => first | rfl | simp)) | (refine' xAg rfl rfl rfl inferInstance ?hm ?hv ?ha ?_; (case hm => first | with_reducible assumption | repeat (first | exact .head _ | with_reducible assumption | apply mC)); (case hv => first | rfl | with_reducible assumption)) | (refine' xAj rfl rfl rfl inferInstance ?hm ?hv ?hn ?ha ?_; (case hm => first | with_reducible assumption | repeat (first | exact .head _ | with_reducible assumption | apply mC)); (case hv => first | with_reducible assumption | (simp only [kC, kD, kE, kF]; try rfl)); (case hn => first | rfl | simp)) | (refine' xAh rfl rfl rfl inferInstance ?hm ?hv ?ha ?_; (case hm => first | with_reducible assumption | repeat (first | exact .head _ | with_reducible assumption | apply mC)); (case hv => first | rfl | with_reducible assumption)) | ((first | refine' xAe (by decide) rfl rfl rfl rfl (fun w => ?hq) ?ha ?_ | refine' xAx (by decide) rfl rfl rfl rfl (fun w => ?hq) ?ha ?_ | refine' xAn (by decide) rfl rfl rfl (fun w => ?hq) ?ha ?_ | refine' xAd (by decide) rfl rfl rfl (fun w => ?hq) ?ha ?_ | refine' xAl (by decide) rfl rfl rfl (fun w => ?hq) ?ha ?_ | refine' xAz (by decide) rfl rfl rfl rfl (fun w => ?hq) ?ha ?_ | refine' xAw (by decide) rfl rfl rfl rfl rfl rfl (fun w => ?hq) ?ha ?_ | refine' xAy (by decide) rfl rfl (fun w => ?hq) ?ha ?_ | refine' xAo (by decide) rfl rfl rfl (fun w => ?hq) ?ha ?_ | refine' xBa (by decide) rfl rfl rfl (fun w => ?hq) ?ha ?_); (case hq => go_simp; try rfl)) | (refine' xAf (by decide) rfl rfl rfl ?ha ?_) | (refine' xBh (by decide) rfl rfl rfl rfl ?ha ?_) | (refine' xBi (by decide) rfl ?ha ?_)); try (case ha => simp only [kP, kQ, kA, kB]; try rfl))
      refine xBo (hK _ _ ?_)
      clear hK K
      try simp only [Act.put, kA, kB, List.setIfInBounds_toArray]
      refine f_at [11, 15] (by decide +kernel) rfl ?_
      refine f_is 11 ?_
      refine f_y rfl rfl (xBv rfl rfl rfl (xBl Try.func14 (by kernel_rfl) (by kernel_rfl) _) (fun w hw => Calls.repQuiet hw (c1 w) rfl)) (by repeat (first | exact xAk | refine xAc (by repeat (first | exact .head _ | with_reducible assumption | apply mC | apply List.mem_append_left)) ?_)) ?_ ?_
      · simp only [Act.put, kA, kB, List.setIfInBounds_toArray]
        (refine xCi [(b5, Obj.cells (nl2 xv c).toArray 37), (b4, Obj.cells [Value.slice (some ⟨bv1, ov1, none⟩) n cp, Value.slice (some ⟨bv2, ov2, none⟩) n cq].toArray 36), (b3, Obj.cells (gl p q g h).toArray 26)] [2, 2, 2, 2, 2, 2, 2, 2, 2, 2, 2, 2, 1, 1, 1, 2, 2, 2] 3 rfl (by repeat (first | exact xAk | refine xAc (by repeat (first | exact .head _ | with_reducible assumption | apply mC)) ?_)) (by repeat (first | exact xAk | refine xAc (by repeat (first | exact .head _ | with_reducible assumption | apply mC)) ?_)) rfl (by decide +kernel) (fun K hK => ?_); (repeat ((first | (refine xBj ?_) | (refine' xAq (by decide) rfl (.inl rfl) rfl ?ha ?_) | (refine' xAq (by decide) rfl (.inr rfl) rfl ?ha ?_) | (refine' xAm rfl rfl rfl inferInstance ?hm ?hn ?ha ?_; (case hm => first | with_reducible assumption | repeat (first | exact .head _ | with_reducible assumption | apply mC)); (case hn => first | rfl | simp)) | (refine' xAi rfl rfl rfl inferInstance ?hm ?hv ?hn ?ha ?_; (case hm => first | with_reducible assumption | repeat (first | exact .head _ | with_reducible assumption | apply mC)); (case hv => first | with_reducible assumption | (simp only [kC, kD, kE, kF]; try rfl)); (case hn => first | rfl | simp)) | (refine' xAg rfl rfl rfl inferInstance ?hm ?hv ?ha ?_; (case hm => first | with_reducible assumption | repeat (first | exact .head _ | with_reducible assumption | apply mC)); (case hv => first | rfl | with_reducible assumption)) | (refine' xAj rfl rfl rfl inferInstance ?hm ?hv ?hn ?ha ?_; (case hm => first | with_reducible assumption | repeat (first | exact .head _ | with_reducible assumption | apply mC)); (case hv => first | with_reducible assumption | (simp only [kC, kD, kE, kF]; try rfl)); (case hn => first | rfl | simp)) | (refine' xAh rfl rfl rfl inferInstance ?hm ?hv ?ha ?_; (case hm => first | with_reducible assumption | repeat (first | exact .head _ | with_reducible assumption | apply mC)); (case hv => first | rfl | with_reducible assumption)) | ((first | refine' xAe (by decide) rfl rfl rfl rfl (fun w => ?hq) ?ha ?_ | refine' xAx (by decide) rfl rfl rfl rfl (fun w => ?hq) ?ha ?_ | refine' xAn (by decide) rfl rfl rfl (fun w => ?hq) ?ha ?_ | refine' xAd (by decide) rfl rfl rfl (fun w => ?hq) ?ha ?_ | refine' xAl (by decide) rfl rfl rfl (fun w => ?hq) ?ha ?_ | refine' xAz (by decide) rfl rfl rfl rfl (fun w => ?hq) ?ha ?_ | refine' xAw (by decide) rfl rfl rfl rfl rfl rfl (fun w => ?hq) ?ha ?_ | refine' xAy (by decide) rfl rfl (fun w => ?hq) ?ha ?_ | refine' xAo (by decide) rfl rfl rfl (fun w => ?hq) ?ha ?_ | refine' xBa (by decide) rfl rfl rfl (fun w => ?hq) ?ha ?_); (case hq => go_simp; try rfl)) | (refine' xAf (by decide) rfl rfl rfl ?ha ?_) | (refine' xBh (by decide) rfl rfl rfl rfl ?ha ?_) | (refine' xBi (by decide) rfl ?ha ?_) | fail); try (case ha => simp only [kP, kQ, kA, kB]; try rfl))); refine xBo (hK _ _ ?_); clear hK K)
        try simp only [Act.put, kA, kB, List.setIfInBounds_toArray]
        refine f_at [15] (by decide +kernel) rfl ?_
        refine f_is 15 ?_
        refine f_new rfl rfl (xCj rfl rfl) (by repeat (first | exact xAk | refine xAc (by repeat (first | exact .head _ | with_reducible assumption | apply mC | apply List.mem_append_left)) ?_)) (fun c' => ?_) xCd
        simp only [Act.put, kA, kB, List.setIfInBounds_toArray]
        refine f_at [16] (by decide +kernel) rfl ?_
        refine f_is 16 ?_
        refine' f_s rfl rfl (xBw (l := [.int .u64 0, .int .u64 0, .int .u64 0, .int .u64 0]) rfl rfl rfl inferInstance rfl rfl rfl rfl ?hs) ?hk ?_ xCd
        (case hs => repeat (first | exact xAv.head | with_reducible assumption | apply xAv.tail))
        (case hk => exact (by repeat (first | exact xAk | refine xAc (by repeat (first | exact .head _ | with_reducible assumption | apply mC | apply List.mem_append_left)) ?_)))
        refine f_at [17] (by decide +kernel) rfl ?_
        refine f_is 17 ?_
        refine f_y rfl rfl (xBg rfl (.inl rfl) rfl) (by repeat (first | exact xAk | refine xAc (by repeat (first | exact .head _ | with_reducible assumption | apply mC | apply List.mem_append_left)) ?_)) ?_ xCd
        simp only [Act.put, kA, kB, List.setIfInBounds_toArray]
        refine f_end (by decide +kernel) (fun w hR => ?_)
        simp only [Exit.then]
        exact hQ'.out _ _ ⟨c', xBd rfl rfl rfl, hR⟩
      · refine f_is 15 ?_
        refine f_new rfl rfl (xCj rfl rfl) (by repeat (first | exact xAk | refine xAc (by repeat (first | exact .head _ | with_reducible assumption | apply mC | apply List.mem_append_left)) ?_)) (fun c' => ?_) xCd
        simp only [Act.put, kA, kB, List.setIfInBounds_toArray]
        refine f_at [11] (by decide +kernel) rfl ?_
        refine f_is 11 ?_
        refine f_y rfl rfl (xBv rfl rfl rfl (xBl Try.func14 (by kernel_rfl) (by kernel_rfl) _) (fun w hw => Calls.repQuiet hw (c1 w) rfl)) (by repeat (first | exact xAk | refine xAc (by repeat (first | exact .head _ | with_reducible assumption | apply mC | apply List.mem_append_left)) ?_)) ?_ xCd
        simp only [Act.put, kA, kB, List.setIfInBounds_toArray]
        (refine xCi [(b5, Obj.cells (nl2 xv c).toArray 37), (b4, Obj.cells [Value.slice (some ⟨bv1, ov1, none⟩) n cp, Value.slice (some ⟨bv2, ov2, none⟩) n cq].toArray 36), (b3, Obj.cells (gl p q g h).toArray 26)] [2, 2, 2, 2, 2, 2, 2, 2, 2, 2, 2, 2, 1, 1, 1, 2, 2, 2] 2 rfl (by repeat (first | exact xAk | refine xAc (by repeat (first | exact .head _ | with_reducible assumption | apply mC)) ?_)) (by repeat (first | exact xAk | refine xAc (by repeat (first | exact .head _ | with_reducible assumption | apply mC)) ?_)) rfl (by decide +kernel) (fun K hK => ?_); (repeat ((first | (refine xBj ?_) | (refine' xAq (by decide) rfl (.inl rfl) rfl ?ha ?_) | (refine' xAq (by decide) rfl (.inr rfl) rfl ?ha ?_) | (refine' xAm rfl rfl rfl inferInstance ?hm ?hn ?ha ?_; (case hm => first | with_reducible assumption | repeat (first | exact .head _ | with_reducible assumption | apply mC)); (case hn => first | rfl | simp)) | (refine' xAi rfl rfl rfl inferInstance ?hm ?hv ?hn ?ha ?_; (case hm => first | with_reducible assumption | repeat (first | exact .head _ | with_reducible assumption | apply mC)); (case hv => first | with_reducible assumption | (simp only [kC, kD, kE, kF]; try rfl)); (case hn => first | rfl | simp)) | (refine' xAg rfl rfl rfl inferInstance ?hm ?hv ?ha ?_; (case hm => first | with_reducible assumption | repeat (first | exact .head _ | with_reducible assumption | apply mC)); (case hv => first | rfl | with_reducible assumption)) | (refine' xAj rfl rfl rfl inferInstance ?hm ?hv ?hn ?ha ?_; (case hm => first | with_reducible assumption | repeat (first | exact .head _ | with_reducible assumption | apply mC)); (case hv => first | with_reducible assumption | (simp only [kC, kD, kE, kF]; try rfl)); (case hn => first | rfl | simp)) | (refine' xAh rfl rfl rfl inferInstance ?hm ?hv ?ha ?_; (case hm => first | with_reducible assumption | repeat (first | exact .head _ | with_reducible assumption | apply mC)); (case hv => first | rfl | with_reducible assumption)) | ((first | refine' xAe (by decide) rfl rfl rfl rfl (fun w => ?hq) ?ha ?_ | refine' xAx (by decide) rfl rfl rfl rfl (fun w => ?hq) ?ha ?_ | refine' xAn (by decide) rfl rfl rfl (fun w => ?hq) ?ha ?_ | refine' xAd (by decide) rfl rfl rfl (fun w => ?hq) ?ha ?_ | refine' xAl (by decide) rfl rfl rfl (fun w => ?hq) ?ha ?_ | refine' xAz (by decide) rfl rfl rfl rfl (fun w => ?hq) ?ha ?_ | refine' xAw (by decide) rfl rfl rfl rfl rfl rfl (fun w => ?hq) ?ha ?_ | refine' xAy (by decide) rfl rfl (fun w => ?hq) ?ha ?_ | refine' xAo (by decide) rfl rfl rfl (fun w => ?hq) ?ha ?_ | refine' xBa (by decide) rfl rfl rfl (fun w => ?hq) ?ha ?_); (case hq => go_simp; try rfl)) | (refine' xAf (by decide) rfl rfl rfl ?ha ?_) | (refine' xBh (by decide) rfl rfl rfl rfl ?ha ?_) | (refine' xBi (by decide) rfl ?ha ?_) | fail); try (case ha => simp only [kP, kQ, kA, kB]; try rfl))); refine xBo (hK _ _ ?_); clear hK K)
        try simp only [Act.put, kA, kB, List.setIfInBounds_toArray]
        refine f_at [16] (by decide +kernel) rfl ?_
        refine f_is 16 ?_
        refine' f_s rfl rfl (xBw (l := [.int .u64 0, .int .u64 0, .int .u64 0, .int .u64 0]) rfl rfl rfl inferInstance rfl rfl rfl rfl ?hs) ?hk ?_ xCd
        (case hs => repeat (first | exact xAv.head | with_reducible assumption | apply xAv.tail))
        (case hk => exact (by repeat (first | exact xAk | refine xAc (by repeat (first | exact .head _ | with_reducible assumption | apply mC | apply List.mem_append_left)) ?_)))
        refine f_at [17] (by decide +kernel) rfl ?_
        refine f_is 17 ?_
        refine f_y rfl rfl (xBg rfl (.inl rfl) rfl) (by repeat (first | exact xAk | refine xAc (by repeat (first | exact .head _ | with_reducible assumption | apply mC | apply List.mem_append_left)) ?_)) ?_ xCd
        simp only [Act.put, kA, kB, List.setIfInBounds_toArray]
        refine f_end (by decide +kernel) (fun w hR => ?_)
        simp only [Exit.then]
        exact hQ'.out _ _ ⟨c', xBd rfl rfl rfl, hR⟩
    case r2 =>
      clear hR
      rename_i K5 k5
      rintro tm w ⟨c0, ht, hR⟩
      repeat (first | (obtain ⟨x, tm', e, ht'⟩ := xAr ht; clear ht; subst e; have ht := ht'; clear ht') | (obtain ⟨tm', e, ht'⟩ := xAp ht; clear ht; subst e; have ht := ht'; clear ht'))
      obtain rfl := xAu ht
      clear ht
      simp only [Exit.then]
      refine k5 _ _ ?_
      clear c1 ldg
      go_wp2_with (first | go_skip | (refine' xAb hR rfl rfl rfl ?_; clear hR; intro blk w hR) | (refine' xAa hR rfl rfl inferInstance ?_; clear hR; intro blk w hR) | (refine' aFq hR rfl rfl rfl inferInstance ?_) | (refine' aGq hR rfl rfl rfl inferInstance ?_) | (refine' aHq hR rfl rfl rfl inferInstance ?_) | (refine' aIq hR rfl rfl rfl inferInstance rfl ?_; clear hR; intro w hR) | (refine' aJq hR rfl rfl rfl inferInstance rfl rfl ?_; clear hR; intro w hR) | (refine' xBk hR rfl rfl rfl inferInstance ?hm ?hn ?_; (case hm => first | with_reducible assumption | repeat (first | exact .head _ | with_reducible assumption | apply mC)); (case hn => first | rfl | simp)) | (refine' xBe hR rfl rfl rfl inferInstance ?hm ?hv ?_; (case hm => first | with_reducible assumption | repeat (first | exact .head _ | with_reducible assumption | apply mC)); (case hv => first | rfl | with_reducible assumption)) | (refine' xBp hR rfl rfl rfl inferInstance ?hm ?hv ?hn ?_; (case hm => first | with_reducible assumption | repeat (first | exact .head _ | with_reducible assumption | apply mC)); (case hv => first | with_reducible assumption | (simp only [kC, kD, kE, kF]; try rfl)); (case hn => first | rfl | simp)) | fail)
      try simp only [Act.put, kA, kB, List.setIfInBounds_toArray]
      refine cut_code (fun l tm w' => ∃ c', agree (false :: false :: false :: false :: false :: false :: false :: false :: false :: false :: false :: false :: false :: false :: false :: false :: false :: false :: false :: false :: false :: false :: false :: false :: false :: false :: false :: false :: false :: false :: false :: false :: false :: false :: false :: false :: false :: false :: false :: false :: false :: false :: false :: false :: false :: false :: false :: false :: false :: false :: false :: false :: false :: false :: false :: false :: false :: false :: false :: false :: false :: false :: false :: false :: false :: false :: false :: false :: false :: false :: false :: false :: false :: false :: false :: false :: false :: false :: false :: false :: false :: false :: false :: false :: false :: false :: false :: false :: false :: false :: false :: false :: false :: false :: false :: false :: false :: false :: false :: false :: false :: false :: false :: false :: false :: true :: true :: true :: true :: true :: true :: true :: true :: true :: true :: true :: true :: false :: false :: false :: false :: false :: false :: false :: false :: false :: false :: false :: false :: false :: false :: false :: false :: false :: false :: false :: false :: false :: false :: false :: false :: false :: false :: false :: false :: false :: false :: false :: false :: false :: false :: false :: false :: false :: false :: false :: false :: false :: false :: false :: false :: false :: false :: false :: false :: false :: false :: false :: false :: false :: false :: false :: false :: false :: false :: false :: false :: false :: false :: false :: false :: false :: false :: false :: false :: false :: false :: false :: false :: false :: false :: false :: false :: false :: false :: false :: false :: false :: false :: false :: false :: false :: false :: false :: false :: false :: false :: false :: false :: false :: false :: false :: false :: false :: false :: false :: false :: false :: false :: false :: false :: false :: false :: false :: false :: false :: false :: false :: false :: false :: false :: false :: false :: false :: false :: false :: false :: false :: false :: false :: false :: false :: false :: false :: []) ((l.set 17 (.pointer (some ⟨c', 0, none⟩))).set 18 (.int .i64 e2)) tm ∧ Rep W.heap.size W ((c', .cells (nl s2).toArray 24) :: (c0, .cells (nl s1).toArray 24) :: (b13, .cells (nl pw).toArray 24) :: (b9, .cells (nl bv).toArray 24) :: (b7, .cells (nl av).toArray 24) :: (b5, .cells (nl2 xv c).toArray 37) :: (b4, .cells [.slice (some ⟨bv1, ov1, none⟩) n cp, .slice (some ⟨bv2, ov2, none⟩) n cq].toArray 36) :: (b3, .cells (gl p q g h).toArray 26) :: (X0.bl ++ Y0.bl)) w') ?r3 ?r4
      case r3 =>
        intro Q' hQ'
        refine xBy hR 15 xCo rfl ?_
        clear hR
        refine xCi [(b5, Obj.cells (nl2 xv c).toArray 37), (b4, Obj.cells [Value.slice (some ⟨bv1, ov1, none⟩) n cp, Value.slice (some ⟨bv2, ov2, none⟩) n cq].toArray 36), (b3, Obj.cells (gl p q g h).toArray 26)] [1, 1, 1, 1, 1, 1, 1, 1, 2, 2, 2, 2, 2, 2, 2] 7 rfl (by repeat (first | exact xAk | refine xAc (by repeat (first | exact .head _ | with_reducible assumption | apply mC)) ?_)) (by repeat (first | exact xAk | refine xAc (by repeat (first | exact .head _ | with_reducible assumption | apply mC)) ?_)) rfl (by decide +kernel) (fun K hK => ?_)
        repeat ((first | (refine' xCm rfl rfl rfl inferInstance ?hm ?hn ?ha ?_; (case hm => exact .tail _ (.tail _ (.head _))); (case hn => rfl)) | (refine' hd_loadKP rfl rfl rfl ldf ?ha ?_) | (refine xBj ?_) | (refine' xAq (by decide) rfl (.inl rfl) rfl ?ha ?_) | (refine' xAq (by decide) rfl (.inr rfl) rfl ?ha ?_) | (refine' xAm rfl rfl rfl inferInstance ?hm ?hn ?ha ?_; (case hm => first | with_reducible assumption | repeat (first | exact .head _ | with_reducible assumption | apply mC)); (case hn => first | rfl | simp)) | (refine' xAi rfl rfl rfl inferInstance ?hm ?hv ?hn ?ha ?_; (case hm => first | with_reducible assumption | repeat (first | exact .head _ | with_reducible assumption | apply mC)); (case hv => first | with_reducible assumption | (simp only [kC, kD, kE, kF]; try rfl)); (case hn => first | rfl | simp)) | (refine' xAg rfl rfl rfl inferInstance ?hm ?hv ?ha ?_; (case hm => first | with_reducible assumption | repeat (first | exact .head _ | with_reducible assumption | apply mC)); (case hv => first | rfl | with_reducible assumption)) | (refine' xAj rfl rfl rfl inferInstance ?hm ?hv ?hn ?ha ?_; (case hm => first | with_reducible assumption | repeat (first | exact .head _ | with_reducible assumption | apply mC)); (case hv => first | with_reducible assumption | (simp only [kC, kD, kE, kF]; try rfl)); (case hn => first | rfl | simp)) | (refine' xAh rfl rfl rfl inferInstance ?hm ?hv ?ha ?_; (case hm => first | with_reducible assumption | repeat (first | exact .head _ | with_reducible assumption | apply mC)); (case hv => first | rfl | with_reducible assumption)) | ((first | refine' xAe (by decide) rfl rfl rfl rfl (fun w => ?hq) ?ha ?_ | refine' xAx (by decide) rfl rfl rfl rfl (fun w => ?hq) ?ha ?_ | refine' xAn (by decide) rfl rfl rfl (fun w => ?hq) ?ha ?_ | refine' xAd (by decide) rfl rfl rfl (fun w => ?hq) ?ha ?_ | refine' xAl (by decide) rfl rfl rfl (fun w => ?hq) ?ha ?_ | refine' xAz (by decide) rfl rfl rfl rfl (fun w => ?hq) ?ha ?_ | refine' xAw (by decide) rfl rfl rfl rfl rfl rfl (fun w => ?hq) ?ha ?_ | refine' xAy (by decide) rfl rfl (fun w => ?hq) ?ha ?_ | refine' xAo (by decide) rfl rfl rfl (fun w => ?hq) ?ha ?_ | refine' xBa (by decide) rfl rfl rfl (fun w => ?hq) ?ha ?_); (case hq => go_simp; try rfl)) | (refine' xAf (by decide) rfl rfl rfl ?ha ?_) | (refine' xBh (by decide) rfl rfl rfl rfl ?ha ?_) | (refine' xBi (by decide) rfl ?ha ?_)); try (case ha => simp only [kP, kQ, kA, kB]; try rfl))
        refine xBo (hK _ _ ?_)
        clear hK K
        try simp only [Act.put, kA, kB, List.setIfInBounds_toArray]
        refine f_at [8, 12] (by decide +kernel) rfl ?_
        refine f_is 8 ?_
        refine f_y rfl rfl (xBv rfl rfl rfl (xBl Try.func15 (by kernel_rfl) (by kernel_rfl) _) (fun w hw => Calls.repQuiet hw (c2 w) rfl)) (by repeat (first | exact xAk | refine xAc (by repeat (first | exact .head _ | with_reducible assumption | apply mC | apply List.mem_append_left)) ?_)) ?_ ?_
        · simp only [Act.put, kA, kB, List.setIfInBounds_toArray]
          (refine xCi [(b5, Obj.cells (nl2 xv c).toArray 37), (b4, Obj.cells [Value.slice (some ⟨bv1, ov1, none⟩) n cp, Value.slice (some ⟨bv2, ov2, none⟩) n cq].toArray 36), (b3, Obj.cells (gl p q g h).toArray 26)] [2, 2, 2, 2, 2, 2, 2, 2, 2, 1, 1, 1, 2, 2, 2] 3 rfl (by repeat (first | exact xAk | refine xAc (by repeat (first | exact .head _ | with_reducible assumption | apply mC)) ?_)) (by repeat (first | exact xAk | refine xAc (by repeat (first | exact .head _ | with_reducible assumption | apply mC)) ?_)) rfl (by decide +kernel) (fun K hK => ?_); (repeat ((first | (refine xBj ?_) | (refine' xAq (by decide) rfl (.inl rfl) rfl ?ha ?_) | (refine' xAq (by decide) rfl (.inr rfl) rfl ?ha ?_) | (refine' xAm rfl rfl rfl inferInstance ?hm ?hn ?ha ?_; (case hm => first | with_reducible assumption | repeat (first | exact .head _ | with_reducible assumption | apply mC)); (case hn => first | rfl | simp)) | (refine' xAi rfl rfl rfl inferInstance ?hm ?hv ?hn ?ha ?_; (case hm => first | with_reducible assumption | repeat (first | exact .head _ | with_reducible assumption | apply mC)); (case hv => first | with_reducible assumption | (simp only [kC, kD, kE, kF]; try rfl)); (case hn => first | rfl | simp)) | (refine' xAg rfl rfl rfl inferInstance ?hm ?hv ?ha ?_; (case hm => first | with_reducible assumption | repeat (first | exact .head _ | with_reducible assumption | apply mC)); (case hv => first | rfl | with_reducible assumption)) | (refine' xAj rfl rfl rfl inferInstance ?hm ?hv ?hn ?ha ?_; (case hm => first | with_reducible assumption | repeat (first | exact .head _ | with_reducible assumption | apply mC)); (case hv => first | with_reducible assumption | (simp only [kC, kD, kE, kF]; try rfl)); (case hn => first | rfl | simp)) | (refine' xAh rfl rfl rfl inferInstance ?hm ?hv ?ha ?_; (case hm => first | with_reducible assumption | repeat (first | exact .head _ | with_reducible assumption | apply mC)); (case hv => first | rfl | with_reducible assumption)) | ((first | refine' xAe (by decide) rfl rfl rfl rfl (fun w => ?hq) ?ha ?_ | refine' xAx (by decide) rfl rfl rfl rfl (fun w => ?hq) ?ha ?_ | refine' xAn (by decide) rfl rfl rfl (fun w => ?hq) ?ha ?_ | refine' xAd (by decide) rfl rfl rfl (fun w => ?hq) ?ha ?_ | refine' xAl (by decide) rfl rfl rfl (fun w => ?hq) ?ha ?_ | refine' xAz (by decide) rfl rfl rfl rfl (fun w => ?hq) ?ha ?_ | refine' xAw (by decide) rfl rfl rfl rfl rfl rfl (fun w => ?hq) ?ha ?_ | refine' xAy (by decide) rfl rfl (fun w => ?hq) ?ha ?_ | refine' xAo (by decide) rfl rfl rfl (fun w => ?hq) ?ha ?_ | refine' xBa (by decide) rfl rfl rfl (fun w => ?hq) ?ha ?_); (case hq => go_simp; try rfl)) | (refine' xAf (by decide) rfl rfl rfl ?ha ?_) | (refine' xBh (by decide) rfl rfl rfl rfl ?ha ?_) | (refine' xBi (by decide) rfl ?ha ?_) | fail); try (case ha => simp only [kP, kQ, kA, kB]; try rfl))); refine xBo (hK _ _ ?_); clear hK K)
          try simp only [Act.put, kA, kB, List.setIfInBounds_toArray]
          refine f_at [12] (by decide +kernel) rfl ?_
          refine f_is 12 ?_
          refine f_new rfl rfl (xCj rfl rfl) (by repeat (first | exact xAk | refine xAc (by repeat (first | exact .head _ | with_reducible assumption | apply mC | apply List.mem_append_left)) ?_)) (fun c' => ?_) xCd
          simp only [Act.put, kA, kB, List.setIfInBounds_toArray]
          refine f_at [13] (by decide +kernel) rfl ?_
          refine f_is 13 ?_
          refine' f_s rfl rfl (xBw (l := [.int .u64 0, .int .u64 0, .int .u64 0, .int .u64 0]) rfl rfl rfl inferInstance rfl rfl rfl rfl ?hs) ?hk ?_ xCd
          (case hs => repeat (first | exact xAv.head | with_reducible assumption | apply xAv.tail))
          (case hk => exact (by repeat (first | exact xAk | refine xAc (by repeat (first | exact .head _ | with_reducible assumption | apply mC | apply List.mem_append_left)) ?_)))
          refine f_at [14] (by decide +kernel) rfl ?_
          refine f_is 14 ?_
          refine f_y rfl rfl (xBg rfl (.inl rfl) rfl) (by repeat (first | exact xAk | refine xAc (by repeat (first | exact .head _ | with_reducible assumption | apply mC | apply List.mem_append_left)) ?_)) ?_ xCd
          simp only [Act.put, kA, kB, List.setIfInBounds_toArray]
          refine f_end (by decide +kernel) (fun w hR => ?_)
          simp only [Exit.then]
          exact hQ'.out _ _ ⟨c', xBd rfl rfl rfl, hR⟩
        · refine f_is 12 ?_
          refine f_new rfl rfl (xCj rfl rfl) (by repeat (first | exact xAk | refine xAc (by repeat (first | exact .head _ | with_reducible assumption | apply mC | apply List.mem_append_left)) ?_)) (fun c' => ?_) xCd
          simp only [Act.put, kA, kB, List.setIfInBounds_toArray]
          refine f_at [8] (by decide +kernel) rfl ?_
          refine f_is 8 ?_
          refine f_y rfl rfl (xBv rfl rfl rfl (xBl Try.func15 (by kernel_rfl) (by kernel_rfl) _) (fun w hw => Calls.repQuiet hw (c2 w) rfl)) (by repeat (first | exact xAk | refine xAc (by repeat (first | exact .head _ | with_reducible assumption | apply mC | apply List.mem_append_left)) ?_)) ?_ xCd
          simp only [Act.put, kA, kB, List.setIfInBounds_toArray]
          (refine xCi [(b5, Obj.cells (nl2 xv c).toArray 37), (b4, Obj.cells [Value.slice (some ⟨bv1, ov1, none⟩) n cp, Value.slice (some ⟨bv2, ov2, none⟩) n cq].toArray 36), (b3, Obj.cells (gl p q g h).toArray 26)] [2, 2, 2, 2, 2, 2, 2, 2, 2, 1, 1, 1, 2, 2, 2] 2 rfl (by repeat (first | exact xAk | refine xAc (by repeat (first | exact .head _ | with_reducible assumption | apply mC)) ?_)) (by repeat (first | exact xAk | refine xAc (by repeat (first | exact .head _ | with_reducible assumption | apply mC)) ?_)) rfl (by decide +kernel) (fun K hK => ?_); (repeat ((first | (refine xBj ?_) | (refine' xAq (by decide) rfl (.inl rfl) rfl ?ha ?_) | (refine' xAq (by decide) rfl (.inr rfl) rfl ?ha ?_) | (refine' xAm rfl rfl rfl inferInstance ?hm ?hn ?ha ?_; (case hm => first | with_reducible assumption | repeat (first | exact .head _ | with_reducible assumption | apply mC)); (case hn => first | rfl | simp)) | (refine' xAi rfl rfl rfl inferInstance ?hm ?hv ?hn ?ha ?_; (case hm => first | with_reducible assumption | repeat (first | exact .head _ | with_reducible assumption | apply mC)); (case hv => first | with_reducible assumption | (simp only [kC, kD, kE, kF]; try rfl)); (case hn => first | rfl | simp)) | (refine' xAg rfl rfl rfl inferInstance ?hm ?hv ?ha ?_; (case hm => first | with_reducible assumption | repeat (first | exact .head _ | with_reducible assumption | apply mC)); (case hv => first | rfl | with_reducible assumption)) | (refine' xAj rfl rfl rfl inferInstance ?hm ?hv ?hn ?ha ?_; (case hm => first | with_reducible assumption | repeat (first | exact .head _ | with_reducible assumption | apply mC)); (case hv => first | with_reducible assumption | (simp only [kC, kD, kE, kF]; try rfl)); (case hn => first | rfl | simp)) | (refine' xAh rfl rfl rfl inferInstance ?hm ?hv ?ha ?_; (case hm => first | with_reducible assumption | repeat (first | exact .head _ | with_reducible assumption | apply mC)); (case hv => first | rfl | with_reducible assumption)) | ((first | refine' xAe (by decide) rfl rfl rfl rfl (fun w => ?hq) ?ha ?_ | refine' xAx (by decide) rfl rfl rfl rfl (fun w => ?hq) ?ha ?_ | refine' xAn (by decide) rfl rfl rfl (fun w => ?hq) ?ha ?_ | refine' xAd (by decide) rfl rfl rfl (fun w => ?hq) ?ha ?_ | refine' xAl (by decide) rfl rfl rfl (fun w => ?hq) ?ha ?_ | refine' xAz (by decide) rfl rfl rfl rfl (fun w => ?hq) ?ha ?_ | refine' xAw (by decide) rfl rfl rfl rfl rfl rfl (fun w => ?hq) ?ha ?_ | refine' xAy (by decide) rfl rfl (fun w => ?hq) ?ha ?_ | refine' xAo (by decide) rfl rfl rfl (fun w => ?hq) ?ha ?_ | refine' xBa (by decide) rfl rfl rfl (fun w => ?hq) ?ha ?_); (case hq => go_simp; try rfl)) | (refine' xAf (by decide) rfl rfl rfl ?ha ?_) | (refine' xBh (by decide) rfl rfl rfl rfl ?ha ?_) | (refine' xBi (by decide) rfl ?ha ?_) | fail); try (case ha => simp only [kP, kQ, kA, kB]; try rfl))); refine xBo (hK _ _ ?_); clear hK K)
          try simp only [Act.put, kA, kB, List.setIfInBounds_toArray]
          refine f_at [13] (by decide +kernel) rfl ?_
          refine f_is 13 ?_
          refine' f_s rfl rfl (xBw (l := [.int .u64 0, .int .u64 0, .int .u64 0, .int .u64 0]) rfl rfl rfl inferInstance rfl rfl rfl rfl ?hs) ?hk ?_ xCd
          (case hs => repeat (first | exact xAv.head | with_reducible assumption | apply xAv.tail))
          (case hk => exact (by repeat (first | exact xAk | refine xAc (by repeat (first | exact .head _ | with_reducible assumption | apply mC | apply List.mem_append_left)) ?_)))
          refine f_at [14] (by decide +kernel) rfl ?_
          refine f_is 14 ?_
          refine f_y rfl rfl (xBg rfl (.inl rfl) rfl) (by repeat (first | exact xAk | refine xAc (by repeat (first | exact .head _ | with_reducible assumption | apply mC | apply List.mem_append_left)) ?_)) ?_ xCd
          simp only [Act.put, kA, kB, List.setIfInBounds_toArray]
          refine f_end (by decide +kernel) (fun w hR => ?_)
          simp only [Exit.then]
          exact hQ'.out _ _ ⟨c', xBd rfl rfl rfl, hR⟩
      case r4 =>
        clear hR
        rename_i K6 k6
        rintro tm w ⟨d0, ht, hR⟩
        repeat (first | (obtain ⟨x, tm', e, ht'⟩ := xAr ht; clear ht; subst e; have ht := ht'; clear ht') | (obtain ⟨tm', e, ht'⟩ := xAp ht; clear ht; subst e; have ht := ht'; clear ht'))
        obtain rfl := xAu ht
        clear ht
        simp only [Exit.then]
        refine k6 _ _ ?_
        clear c2 ldf
        rcases hse.out with ⟨hcq, hs2, rfl⟩ | ⟨hcq, rfl⟩
        case inr =>
          clear hcq
          go_wp2_with (first | go_skip | (refine' xAb hR rfl rfl rfl ?_; clear hR; intro blk w hR) | (refine' xAa hR rfl rfl inferInstance ?_; clear hR; intro blk w hR) | (refine' aFq hR rfl rfl rfl inferInstance ?_) | (refine' aGq hR rfl rfl rfl inferInstance ?_) | (refine' aHq hR rfl rfl rfl inferInstance ?_) | (refine' aIq hR rfl rfl rfl inferInstance rfl ?_; clear hR; intro w hR) | (refine' aJq hR rfl rfl rfl inferInstance rfl rfl ?_; clear hR; intro w hR) | (refine' xBk hR rfl rfl rfl inferInstance ?hm ?hn ?_; (case hm => first | with_reducible assumption | repeat (first | exact .head _ | with_reducible assumption | apply mC)); (case hn => first | rfl | simp)) | (refine' xBe hR rfl rfl rfl inferInstance ?hm ?hv ?_; (case hm => first | with_reducible assumption | repeat (first | exact .head _ | with_reducible assumption | apply mC)); (case hv => first | rfl | with_reducible assumption)) | (refine' xBp hR rfl rfl rfl inferInstance ?hm ?hv ?hn ?_; (case hm => first | with_reducible assumption | repeat (first | exact .head _ | with_reducible assumption | apply mC)); (case hv => first | with_reducible assumption | (simp only [kC, kD, kE, kF]; try rfl)); (case hn => first | rfl | simp)) | fail)
          go_ret
          exact ⟨rfl, hR.below⟩
        have hs2' : mulN (f i) c q = s2 := by rw [hfv.out]; exact hs2
        have hs1' : (f i + f2 i) % q = s1 := by rw [hfv.out, hgv.out]; exact hs1.out
        replace hs1' := Held.mk hs1'
        replace hs2' := Held.mk hs2'
        replace hcq := Held.mk hcq
        clear hs2
        go_wp2_with (first | go_skip | (refine' xAb hR rfl rfl rfl ?_; clear hR; intro blk w hR) | (refine' xAa hR rfl rfl inferInstance ?_; clear hR; intro blk w hR) | (refine' aFq hR rfl rfl rfl inferInstance ?_) | (refine' aGq hR rfl rfl rfl inferInstance ?_) | (refine' aHq hR rfl rfl rfl inferInstance ?_) | (refine' aIq hR rfl rfl rfl inferInstance rfl ?_; clear hR; intro w hR) | (refine' aJq hR rfl rfl rfl inferInstance rfl rfl ?_; clear hR; intro w hR) | (refine' xBk hR rfl rfl rfl inferInstance ?hm ?hn ?_; (case hm => first | with_reducible assumption | repeat (first | exact .head _ | with_reducible assumption | apply mC)); (case hn => first | rfl | simp)) | (refine' xBe hR rfl rfl rfl inferInstance ?hm ?hv ?_; (case hm => first | with_reducible assumption | repeat (first | exact .head _ | with_reducible assumption | apply mC)); (case hv => first | rfl | with_reducible assumption)) | (refine' xBp hR rfl rfl rfl inferInstance ?hm ?hv ?hn ?_; (case hm => first | with_reducible assumption | repeat (first | exact .head _ | with_reducible assumption | apply mC)); (case hv => first | with_reducible assumption | (simp only [kC, kD, kE, kF]; try rfl)); (case hn => first | rfl | simp)) | (go_at_call 15; refine (cP _).mono ?_; rintro e w ⟨rfl, hb⟩; replace hR := hR.call hb; clear hb) | (refine' wpList_new hR (isNew_nums1 rfl rfl rfl) ?_; clear hR; intro bt w hR) | (refine' xCn (L' := fun l => (d0, .cells (nl s2).toArray 24) :: (c0, .cells (nl s1).toArray 24) :: (b13, .cells (nl pw).toArray 24) :: (b9, .cells (nl bv).toArray 24) :: (b7, .cells (nl av).toArray 24) :: (b5, .cells (nl2 xv c).toArray 37) :: (b4, .cells [.slice (some ⟨bv1, ov1, none⟩) n cp, .slice (some ⟨bv2, ov2, none⟩) n cq].toArray 36) :: (b3, .cells (gl p q g h).toArray 26) :: (l ++ Y0.bl)) hR (fun l => List.perm_append_comm_assoc [_, _, _, _, _, _, _, _] l _) rfl rfl rfl rfl hX hs1'.out hbig ?_; clear hR hX; intro X1 w hX hR) | (refine' xCn (L' := fun l => (d0, .cells (nl s2).toArray 24) :: (c0, .cells (nl s1).toArray 24) :: (b13, .cells (nl pw).toArray 24) :: (b9, .cells (nl bv).toArray 24) :: (b7, .cells (nl av).toArray 24) :: (b5, .cells (nl2 xv c).toArray 37) :: (b4, .cells [.slice (some ⟨bv1, ov1, none⟩) n cp, .slice (some ⟨bv2, ov2, none⟩) n cq].toArray 36) :: (b3, .cells (gl p q g h).toArray 26) :: (X1.bl ++ l)) hR (fun l => List.perm_append_comm (l₁ := _ :: _ :: _ :: _ :: _ :: _ :: _ :: _ :: GrN.bl _)) rfl rfl rfl rfl hY hs2'.out hbig ?_; clear hR hY; intro Y1 w hY hR))
        refine hK.out (i + 1, X1, Y1) _ _ ⟨hi1.out, hX, hY, .inl hcq.out⟩ hmu.out (by simp only [ek.out]; exact xBd rfl rfl rfl) ?_
        show Rep _ _ ((b13, .cells (nl (powS q xv (i + 1))).toArray 24) :: _) _
        rw [hpv.out]
        exact hR.drop1.drop1
end Go.Proofs.Ytgfoeongjhkdmaa
