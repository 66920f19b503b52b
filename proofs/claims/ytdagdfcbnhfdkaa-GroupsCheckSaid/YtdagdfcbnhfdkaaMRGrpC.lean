/- The contract of balefireref08.Check. -/
import Derived.Test.YtdagdfcbnhfdkaaMRGrp
import Derived.Test.YtdagdfcbnhfdkaaMRCheck
import Derived.Test.YtdagdfcbnhfdkaaMGCheckA
set_option linter.unusedVariables false
set_option linter.unusedSimpArgs false
namespace Go.Proofs.Ytdagdfcbnhfdkaa
open Go.RowKit
attribute [local irreducible] Calls
section
variable {p q g h : Nat} {B0 : Nat} {w0 w : World} {L : List (Nat × Obj)}
theorem refCheck_no {s : Bool} {X : Prop} (hs : s = true ↔ X) (h : ¬ X) : s = false := by
  cases s
  · rfl
  · exact absurd (hs.1 rfl) h
set_option maxRecDepth 100000 in
set_option maxHeartbeats 8000000 in
set_option maxRecDepth 100000 in
theorem rgcheck_any (hp : p < B) (hq : q < B) (hg : g < B) (hh : h < B) {r1 r2 : RT} {l1 l2 : List Value} (h1 : RAt B0 w0 [] r1 l1) (h2 : RAt B0 w0 [] r2 l2) (s : Bool) (hs : s = true ↔ grpOK p q g h r1 r2) (hR : Rep B0 w0 L w) :
    Calls Try.prog 21 #[grp p q g h, .agg l1.toArray, .agg l2.toArray] w fun e w' => e = .returned (.bool s) ∧ Rep B0 w0 L w' := by
  classical
  have tp := gl_p p q g h
  have tq := gl_q p q g h
  have tg := gl_g p q g h
  have th := gl_h p q g h
  obtain ⟨n1, hn1⟩ : ∃ n, n = 1 := ⟨_, rfl⟩
  have o1 := fun w => rone_any n1 hn1 w
  have L1 : n1 < B := lt_B (by omega)
  obtain ⟨b1, hb1⟩ : ∃ b : Bool, b = true ↔ xCl r1 ∧ cntR r1 ≤ 32 := ⟨decide (xCl r1 ∧ cntR r1 ≤ 32), decide_eq_true_iff⟩
  obtain ⟨b2, hb2⟩ : ∃ b : Bool, b = true ↔ xCl r2 ∧ cntR r2 ≤ 32 := ⟨decide (xCl r2 ∧ cntR r2 ≤ 32), decide_eq_true_iff⟩
  have cc1 := fun (L : List (Nat × Obj)) (w : World) (hw : Rep B0 w0 L w) => rcheck_any r1 h1 b1 hb1 hw
  have cc2 := fun (L : List (Nat × Obj)) (w : World) (hw : Rep B0 w0 L w) => rcheck_any r2 h2 b2 hb2 hw
  have m1B := h1.num_lt
  have m2B := h2.num_lt
  obtain ⟨t1, a1, q1, p1, rfl, -, -⟩ := h1.row
  obtain ⟨t2, a2, q2, p2, rfl, -, -⟩ := h2.row
  have rn := rr_n r1.num t1 (.slice a1 q1 p1)
  have rt := rr_n r2.num t2 (.slice a2 q2 p2)
  have drop : ∀ (x1 x2 x3 : Nat × Obj) (w : World), Rep B0 w0 (x1 :: x2 :: x3 :: L) w → Rep B0 w0 L w := fun x1 x2 x3 w hw => hw.weaken (List.sublist_append_right [_, _, _] _)
  by_cases hok : (b1 = true ∧ b2 = true) ∧ r1.num = p ∧ r2.num = q
  case neg =>
    obtain rfl : s = false := refCheck_no hs fun hx => hok ⟨⟨hb1.2 hx.1, hb2.2 hx.2.2.1⟩, hx.2.1, hx.2.2.2.1⟩
    clear hs hb1 hb2 h1 h2
    cases b1 with
    | false =>
      clear hok
      go_enter Try.func21, Try.ntmps21
      go_wp2_with (first | go_skip | (refine' xAb hR rfl rfl rfl ?_; clear hR; intro blk w hR) | (refine' xAa hR rfl rfl inferInstance ?_; clear hR; intro blk w hR) | (refine' aFq hR rfl rfl rfl inferInstance ?_) | (refine' aGq hR rfl rfl rfl inferInstance ?_) | (refine' aHq hR rfl rfl rfl inferInstance ?_) | (refine' aDq hR rfl rfl rfl inferInstance rfl ?_; clear hR; intro w hR) | (refine' aEq hR rfl rfl rfl inferInstance rfl rfl ?_; clear hR; intro w hR) | (refine' xAg hR rfl rfl rfl inferInstance ?hm ?hn ?_; (case hm => first | with_reducible assumption | repeat (first | exact .head _ | with_reducible assumption | apply mC)); (case hn => first | rfl | simp)) | (refine' xAc hR rfl rfl rfl inferInstance ?hm ?hv ?_; (case hm => first | with_reducible assumption | repeat (first | exact .head _ | with_reducible assumption | apply mC)); (case hv => first | rfl | with_reducible assumption)) | (refine' xAz hR rfl rfl rfl inferInstance ?hm ?hv ?hn ?_; (case hm => first | with_reducible assumption | repeat (first | exact .head _ | with_reducible assumption | apply mC)); (case hv => first | with_reducible assumption | (simp only [kC, kD, kE, kF]; try rfl)); (case hn => first | rfl | simp)) | (go_at_call 58; refine (cc1 _ _ hR).mono ?_; clear hR; rintro e w ⟨rfl, hR⟩))
      go_ret
      exact ⟨rfl, drop _ _ _ _ hR⟩
    | true =>
    cases b2 with
    | false =>
      clear hok
      go_enter Try.func21, Try.ntmps21
      go_wp2_with (first | go_skip | (refine' xAb hR rfl rfl rfl ?_; clear hR; intro blk w hR) | (refine' xAa hR rfl rfl inferInstance ?_; clear hR; intro blk w hR) | (refine' aFq hR rfl rfl rfl inferInstance ?_) | (refine' aGq hR rfl rfl rfl inferInstance ?_) | (refine' aHq hR rfl rfl rfl inferInstance ?_) | (refine' aDq hR rfl rfl rfl inferInstance rfl ?_; clear hR; intro w hR) | (refine' aEq hR rfl rfl rfl inferInstance rfl rfl ?_; clear hR; intro w hR) | (refine' xAg hR rfl rfl rfl inferInstance ?hm ?hn ?_; (case hm => first | with_reducible assumption | repeat (first | exact .head _ | with_reducible assumption | apply mC)); (case hn => first | rfl | simp)) | (refine' xAc hR rfl rfl rfl inferInstance ?hm ?hv ?_; (case hm => first | with_reducible assumption | repeat (first | exact .head _ | with_reducible assumption | apply mC)); (case hv => first | rfl | with_reducible assumption)) | (refine' xAz hR rfl rfl rfl inferInstance ?hm ?hv ?hn ?_; (case hm => first | with_reducible assumption | repeat (first | exact .head _ | with_reducible assumption | apply mC)); (case hv => first | with_reducible assumption | (simp only [kC, kD, kE, kF]; try rfl)); (case hn => first | rfl | simp)) | (go_at_call 58; refine (cc1 _ _ hR).mono ?_; clear hR; rintro e w ⟨rfl, hR⟩) | (go_at_call 58; refine (cc2 _ _ hR).mono ?_; clear hR; rintro e w ⟨rfl, hR⟩))
      go_ret
      exact ⟨rfl, drop _ _ _ _ hR⟩
    | true =>
    by_cases e1 : r1.num = p
    case neg =>
      have z1 := xBz m1B hp e1
      generalize r1.num = m1 at *
      generalize r2.num = m2 at *
      clear hok e1
      go_enter Try.func21, Try.ntmps21
      go_wp2_with (first | (refine' xAb hR rfl rfl rfl ?_; clear hR; intro blk w hR) | (refine' xAa hR rfl rfl inferInstance ?_; clear hR; intro blk w hR) | (refine' aFq hR rfl rfl rfl inferInstance ?_) | (refine' aGq hR rfl rfl rfl inferInstance ?_) | (refine' aHq hR rfl rfl rfl inferInstance ?_) | (refine' aDq hR rfl rfl rfl inferInstance rfl ?_; clear hR; intro w hR) | (refine' aEq hR rfl rfl rfl inferInstance rfl rfl ?_; clear hR; intro w hR) | (refine' xAg hR rfl rfl rfl inferInstance ?hm ?hn ?_; (case hm => first | with_reducible assumption | repeat (first | exact .head _ | with_reducible assumption | apply mC)); (case hn => first | rfl | simp)) | (refine' xAc hR rfl rfl rfl inferInstance ?hm ?hv ?_; (case hm => first | with_reducible assumption | repeat (first | exact .head _ | with_reducible assumption | apply mC)); (case hv => first | rfl | with_reducible assumption)) | (refine' xAz hR rfl rfl rfl inferInstance ?hm ?hv ?hn ?_; (case hm => first | with_reducible assumption | repeat (first | exact .head _ | with_reducible assumption | apply mC)); (case hv => first | with_reducible assumption | (simp only [kC, kD, kE, kF]; try rfl)); (case hn => first | rfl | simp)) | go_skip | (go_at_call 58; refine (cc1 _ _ hR).mono ?_; clear hR; rintro e w ⟨rfl, hR⟩) | (go_at_call 58; refine (cc2 _ _ hR).mono ?_; clear hR; rintro e w ⟨rfl, hR⟩))
      go_ret
      exact ⟨rfl, drop _ _ _ _ hR⟩
    have e2 : ¬ r2.num = q := fun e2 => hok ⟨⟨rfl, rfl⟩, e1, e2⟩
    have z1 := xBw e1
    have z2 := xBz m2B hq e2
    generalize r1.num = m1 at *
    generalize r2.num = m2 at *
    clear hok e1 e2
    go_enter Try.func21, Try.ntmps21
    go_wp2_with (first | (refine' xAb hR rfl rfl rfl ?_; clear hR; intro blk w hR) | (refine' xAa hR rfl rfl inferInstance ?_; clear hR; intro blk w hR) | (refine' aFq hR rfl rfl rfl inferInstance ?_) | (refine' aGq hR rfl rfl rfl inferInstance ?_) | (refine' aHq hR rfl rfl rfl inferInstance ?_) | (refine' aDq hR rfl rfl rfl inferInstance rfl ?_; clear hR; intro w hR) | (refine' aEq hR rfl rfl rfl inferInstance rfl rfl ?_; clear hR; intro w hR) | (refine' xAg hR rfl rfl rfl inferInstance ?hm ?hn ?_; (case hm => first | with_reducible assumption | repeat (first | exact .head _ | with_reducible assumption | apply mC)); (case hn => first | rfl | simp)) | (refine' xAc hR rfl rfl rfl inferInstance ?hm ?hv ?_; (case hm => first | with_reducible assumption | repeat (first | exact .head _ | with_reducible assumption | apply mC)); (case hv => first | rfl | with_reducible assumption)) | (refine' xAz hR rfl rfl rfl inferInstance ?hm ?hv ?hn ?_; (case hm => first | with_reducible assumption | repeat (first | exact .head _ | with_reducible assumption | apply mC)); (case hv => first | with_reducible assumption | (simp only [kC, kD, kE, kF]; try rfl)); (case hn => first | rfl | simp)) | go_skip | (go_at_call 58; refine (cc1 _ _ hR).mono ?_; clear hR; rintro e w ⟨rfl, hR⟩) | (go_at_call 58; refine (cc2 _ _ hR).mono ?_; clear hR; rintro e w ⟨rfl, hR⟩))
    go_ret
    exact ⟨rfl, drop _ _ _ _ hR⟩
  obtain ⟨⟨rfl, rfl⟩, e1, e2⟩ := hok
  have g1 := hb1.1 rfl
  have g2 := hb2.1 rfl
  have p2' : 2 ≤ p := by rw [← e1]; exact (good_pr r1 g1.1).1
  have q2' : 2 ≤ q := by rw [← e2]; exact (good_pr r2 g2.1).1
  obtain ⟨ls, hl⟩ : ∃ l, (p + B - 1) % B = l := ⟨_, rfl⟩
  have lsB : ls < B := by rw [← hl]; exact Nat.mod_lt _ B_pos
  obtain ⟨bb, hbb⟩ : ∃ c, bor (p : Int) (n1 : Int) = c := ⟨_, rfl⟩
  have s1 := rs_mod (d := ls) hp L1 (by rw [hn1, hl]) hbb
  obtain ⟨kq, hkq⟩ : ∃ x, quo0 ls q = x := ⟨_, rfl⟩
  obtain ⟨lf, hlf⟩ : ∃ x, rem0 ls q = x := ⟨_, rfl⟩
  have d1 := rd_lit (e := 0) lsB hq hkq hlf (by rw [if_neg (by omega)])
  have hrm : lf = ls % q := by rw [← hlf, rem0_pos (by omega)]
  have lfB : lf < B := by rw [hrm]; exact Nat.lt_trans (Nat.mod_lt _ (by omega)) hq
  obtain ⟨i1, hi1⟩ : ∃ b : Bool, b = true ↔ inG p q g := ⟨decide (inG p q g), decide_eq_true_iff⟩
  obtain ⟨i2, hi2⟩ : ∃ b : Bool, b = true ↔ inG p q h := ⟨decide (inG p q h), decide_eq_true_iff⟩
  have x1 := rgin_lit (g := g) (h := h) hp hq hg hi1
  have x2 := rgin_lit (g := g) (h := h) hp hq hh hi2
  have e0 : eqN lf 0 = true ↔ lf = 0 := ⟨fun h' => by
    by_cases e : lf = 0
    · exact e
    · rw [xBz lfB B_pos e] at h'; exact absurd h' (by decide), fun e => xBw e⟩
  have e3 : (!eqN g n1) = true ↔ g ≠ 1 := by
    by_cases e : g = 1
    · rw [xBw (by omega : g = n1)]; simp [e]
    · rw [xBz hg L1 (by omega)]; simp [e]
  have e4 : (!eqN h n1) = true ↔ h ≠ 1 := by
    by_cases e : h = 1
    · rw [xBw (by omega : h = n1)]; simp [e]
    · rw [xBz hh L1 (by omega)]; simp [e]
  obtain ⟨z0, hz0⟩ : ∃ c, eqN lf 0 = c := ⟨_, rfl⟩
  obtain ⟨c2, hc2⟩ : ∃ c, (z0 && i1) = c := ⟨_, rfl⟩
  obtain ⟨c3, hc3⟩ : ∃ c, (c2 && i2) = c := ⟨_, rfl⟩
  obtain ⟨c4, hc4⟩ : ∃ c, (c3 && !eqN g n1) = c := ⟨_, rfl⟩
  have hall : (c4 && !eqN h n1) = s := by
    refine Bool.eq_iff_iff.2 (Iff.trans ?_ hs.symm)
    rw [← hc4, ← hc3, ← hc2, ← hz0]
    simp only [Bool.and_eq_true]
    rw [e0, e3, e4, hi1, hi2, hrm]
    unfold grpOK
    rw [hl]
    constructor
    · rintro ⟨⟨⟨⟨a1, a2⟩, a3⟩, a4⟩, a5⟩
      exact ⟨g1, e1, g2, e2, ⟨by omega, a1⟩, a2, a3, a4, a5⟩
    · rintro ⟨_, _, _, _, ⟨_, a1⟩, a2, a3, a4, a5⟩
      exact ⟨⟨⟨⟨a1, a2⟩, a3⟩, a4⟩, a5⟩
  have y1 := xBw e1
  have y2 := xBw e2
  rw [e1] at rn cc1 y1
  rw [e2] at rt cc2 y2
  rw [e1, e2]
  clear hs hb1 hb2 h1 h2 g1 g2 hi1 hi2 e0 e3 e4 e1 e2 hl hbb hkq hlf hrm lfB lsB L1 hn1 m1B m2B
  go_enter Try.func21, Try.ntmps21
  go_wp2_with (first | (refine' xAb hR rfl rfl rfl ?_; clear hR; intro blk w hR) | (refine' xAa hR rfl rfl inferInstance ?_; clear hR; intro blk w hR) | (refine' aFq hR rfl rfl rfl inferInstance ?_) | (refine' aGq hR rfl rfl rfl inferInstance ?_) | (refine' aHq hR rfl rfl rfl inferInstance ?_) | (refine' aDq hR rfl rfl rfl inferInstance rfl ?_; clear hR; intro w hR) | (refine' aEq hR rfl rfl rfl inferInstance rfl rfl ?_; clear hR; intro w hR) | (refine' xAg hR rfl rfl rfl inferInstance ?hm ?hn ?_; (case hm => first | with_reducible assumption | repeat (first | exact .head _ | with_reducible assumption | apply mC)); (case hn => first | rfl | simp)) | (refine' xAc hR rfl rfl rfl inferInstance ?hm ?hv ?_; (case hm => first | with_reducible assumption | repeat (first | exact .head _ | with_reducible assumption | apply mC)); (case hv => first | rfl | with_reducible assumption)) | (refine' xAz hR rfl rfl rfl inferInstance ?hm ?hv ?hn ?_; (case hm => first | with_reducible assumption | repeat (first | exact .head _ | with_reducible assumption | apply mC)); (case hv => first | with_reducible assumption | (simp only [kC, kD, kE, kF]; try rfl)); (case hn => first | rfl | simp)) | go_skip | (go_at_call 58; refine (cc1 _ _ hR).mono ?_; clear hR; rintro e w ⟨rfl, hR⟩) | (go_at_call 58; refine (cc2 _ _ hR).mono ?_; clear hR; rintro e w ⟨rfl, hR⟩))
  clear cc1 cc2
  refine' xCf hR [1, 1, 1, 1, 1, 1, 1, 2, 2, 2] 7 7 _ _ [8, 9] xBx (by kernel_rfl) rfl rfl rfl rfl rfl (isAlloc rfl rfl ?z1) ?_
  case z1 => exact inferInstance
  intro K hK
  clear hR
  repeat ((first | (refine xBl ?_) | (refine' xAt (by decide) rfl (.inl rfl) rfl ?ha ?_) | (refine' xAt (by decide) rfl (.inr rfl) rfl ?ha ?_) | (refine' xAr rfl rfl rfl inferInstance ?hm ?hn ?ha ?_; (case hm => first | with_reducible assumption | repeat (first | exact .head _ | with_reducible assumption | apply mC)); (case hn => first | rfl | simp)) | (refine' xAo rfl rfl rfl inferInstance ?hm ?hv ?hn ?ha ?_; (case hm => first | with_reducible assumption | repeat (first | exact .head _ | with_reducible assumption | apply mC)); (case hv => first | with_reducible assumption | (simp only [kC, kD, kE, kF]; try rfl)); (case hn => first | rfl | simp)) | (refine' xAi rfl rfl rfl inferInstance ?hm ?hv ?ha ?_; (case hm => first | with_reducible assumption | repeat (first | exact .head _ | with_reducible assumption | apply mC)); (case hv => first | rfl | with_reducible assumption)) | (refine' hd_keepAll rfl rfl rfl inferInstance ?hm ?hn ?ha ?_; (case hm => first | with_reducible assumption | repeat (first | exact .head _ | with_reducible assumption | apply mC)); (case hn => first | rfl | simp)) | (refine' xAv rfl rfl rfl inferInstance ?hm ?hv ?hn ?ha ?_; (case hm => first | with_reducible assumption | repeat (first | exact .head _ | with_reducible assumption | apply mC)); (case hv => first | with_reducible assumption | (simp only [kC, kD, kE, kF]; try rfl)); (case hn => first | rfl | simp)) | (refine' xAn rfl rfl rfl inferInstance ?hm ?hv ?ha ?_; (case hm => first | with_reducible assumption | repeat (first | exact .head _ | with_reducible assumption | apply mC)); (case hv => first | rfl | with_reducible assumption)) | ((first | refine' xAe (by decide) rfl rfl rfl rfl (fun w => ?hq) ?ha ?_ | refine' xBb (by decide) rfl rfl rfl rfl (fun w => ?hq) ?ha ?_ | refine' xAp (by decide) rfl rfl rfl (fun w => ?hq) ?ha ?_ | refine' xAd (by decide) rfl rfl rfl (fun w => ?hq) ?ha ?_ | refine' xAq (by decide) rfl rfl rfl (fun w => ?hq) ?ha ?_ | refine' xBa (by decide) rfl rfl rfl rfl (fun w => ?hq) ?ha ?_ | refine' xBf (by decide) rfl rfl rfl rfl rfl rfl (fun w => ?hq) ?ha ?_ | refine' xBd (by decide) rfl rfl (fun w => ?hq) ?ha ?_ | refine' xAw (by decide) rfl rfl rfl (fun w => ?hq) ?ha ?_ | refine' xBe (by decide) rfl rfl rfl (fun w => ?hq) ?ha ?_); (case hq => go_simp; try rfl)) | (refine' xAm (by decide) rfl rfl rfl ?ha ?_) | (refine' xBi (by decide) rfl rfl rfl rfl ?ha ?_) | (refine' xBk (by decide) rfl ?ha ?_) | (refine' hd_callI rfl rfl rfl (xBh Try.func51 (by kernel_rfl) (by kernel_rfl) _) (fun w => o1 w) ?ha ?_) | (refine' hd_callI rfl rfl rfl (xBh Try.func59 (by kernel_rfl) (by kernel_rfl) _) (fun w => s1 w) ?ha ?_)); try (case ha => simp only [kP, kQ, kA, kB]; try rfl))
  try simp only [List.nil_append, List.cons_append]
  refine xBp (hK _ _ (fun _ => ?_))
  clear hK K
  refine xBo (fun Q hQ => ?_)
  simp only [kP, kQ, kA, kB]
  repeat ((first | refine' xAx rfl (.inl rfl) rfl ?hk ?ha ?_ | refine' xAx rfl (.inr rfl) rfl ?hk ?ha ?_ | (refine' xAl rfl rfl rfl inferInstance rfl ?hs rfl rfl ?hn ?hk ?ha ?_; (case hs => repeat (first | exact xAs.head | apply xAs.tail)); (case hn => first | rfl | simp)) | (refine' xAh rfl rfl rfl inferInstance rfl rfl ?hs ?hn ?hl ?hk ?ha ?_; (case hs => repeat (first | exact xAs.head | apply xAs.tail)); (case hn => first | exact oD rfl | (show _ < 4; with_reducible assumption) | (simp; try omega)); (case hl => first | with_reducible assumption | (simp only [nl, kA, kB]; first | done | rfl) | rfl)) | (refine' xAk rfl rfl rfl inferInstance rfl rfl ?hvn ?hs ?hn ?hl ?hk ?ha ?_; (case hvn => first | rfl | simp); (case hs => repeat (first | exact xAs.head | apply xAs.tail)); (case hn => first | exact oD rfl | (show _ < 4; with_reducible assumption) | (simp; try omega)); (case hl => first | with_reducible assumption | (simp only [nl, kA, kB]; first | done | rfl) | rfl)) | (refine' xBj rfl (fun w => ?hq) ?hk ?ha ?_; (case hq => go_simp; try rfl))); (case hk => intro p hp; repeat (first | exact hp | apply mT)); (case ha => simp only [kP, kQ, kA, kB]; try rfl))
  refine xBn (fun w hR => hQ _ _ ?_)
  clear hQ Q
  go_wp2_with (first | (refine' xAb hR rfl rfl rfl ?_; clear hR; intro blk w hR) | (refine' xAa hR rfl rfl inferInstance ?_; clear hR; intro blk w hR) | (refine' aFq hR rfl rfl rfl inferInstance ?_) | (refine' aGq hR rfl rfl rfl inferInstance ?_) | (refine' aHq hR rfl rfl rfl inferInstance ?_) | (refine' aDq hR rfl rfl rfl inferInstance rfl ?_; clear hR; intro w hR) | (refine' aEq hR rfl rfl rfl inferInstance rfl rfl ?_; clear hR; intro w hR) | (go_at_call 60; refine (d1 _).mono ?_; rintro e w ⟨rfl, hb⟩; replace hR := hR.call hb; clear hb))
  refine xAf hR [0, 0, 0, 0, 0, 0, 0, 0, 0, 0, 0, 0, 0, 0, 0, 0, 0, 0, 0, 0, 0, 0, 0, 0, 0, 0, 0, 2] [] xBx (by kernel_rfl) rfl rfl (fun K hK => ?_)
  clear hR
  repeat ((first | (refine xBl ?_) | (refine' xAt (by decide) rfl (.inl rfl) rfl ?ha ?_) | (refine' xAt (by decide) rfl (.inr rfl) rfl ?ha ?_) | (refine' xAr rfl rfl rfl inferInstance ?hm ?hn ?ha ?_; (case hm => first | with_reducible assumption | repeat (first | exact .head _ | with_reducible assumption | apply mC)); (case hn => first | rfl | simp)) | (refine' xAo rfl rfl rfl inferInstance ?hm ?hv ?hn ?ha ?_; (case hm => first | with_reducible assumption | repeat (first | exact .head _ | with_reducible assumption | apply mC)); (case hv => first | with_reducible assumption | (simp only [kC, kD, kE, kF]; try rfl)); (case hn => first | rfl | simp)) | (refine' xAi rfl rfl rfl inferInstance ?hm ?hv ?ha ?_; (case hm => first | with_reducible assumption | repeat (first | exact .head _ | with_reducible assumption | apply mC)); (case hv => first | rfl | with_reducible assumption)) | (refine' xAv rfl rfl rfl inferInstance ?hm ?hv ?hn ?ha ?_; (case hm => first | with_reducible assumption | repeat (first | exact .head _ | with_reducible assumption | apply mC)); (case hv => first | with_reducible assumption | (simp only [kC, kD, kE, kF]; try rfl)); (case hn => first | rfl | simp)) | (refine' xAn rfl rfl rfl inferInstance ?hm ?hv ?ha ?_; (case hm => first | with_reducible assumption | repeat (first | exact .head _ | with_reducible assumption | apply mC)); (case hv => first | rfl | with_reducible assumption)) | ((first | refine' xAe (by decide) rfl rfl rfl rfl (fun w => ?hq) ?ha ?_ | refine' xBb (by decide) rfl rfl rfl rfl (fun w => ?hq) ?ha ?_ | refine' xAp (by decide) rfl rfl rfl (fun w => ?hq) ?ha ?_ | refine' xAd (by decide) rfl rfl rfl (fun w => ?hq) ?ha ?_ | refine' xAq (by decide) rfl rfl rfl (fun w => ?hq) ?ha ?_ | refine' xBa (by decide) rfl rfl rfl rfl (fun w => ?hq) ?ha ?_ | refine' xBf (by decide) rfl rfl rfl rfl rfl rfl (fun w => ?hq) ?ha ?_ | refine' xBd (by decide) rfl rfl (fun w => ?hq) ?ha ?_ | refine' xAw (by decide) rfl rfl rfl (fun w => ?hq) ?ha ?_ | refine' xBe (by decide) rfl rfl rfl (fun w => ?hq) ?ha ?_); (case hq => go_simp; try rfl)) | (refine' xAm (by decide) rfl rfl rfl ?ha ?_) | (refine' xBi (by decide) rfl rfl rfl rfl ?ha ?_) | (refine' xBk (by decide) rfl ?ha ?_) | (refine' xBc rfl rfl rfl (xBh Try.func51 (by kernel_rfl) (by kernel_rfl) _) (fun w => o1 w) ?ha ?_) | (refine' hd_pickAnd (by decide) rfl rfl rfl rfl rfl (by assumption) ?ha ?_) | (refine' hd_pickOr (by decide) rfl rfl rfl rfl rfl (by assumption) ?ha ?_) | (refine' hd_both (b := z0) (by decide) ?hF ?hT ?_; (case hF => intro hb; subst hb; rfl); (case hT => intro hb h; subst hb; (try simp only [cond_true, cond_false]); first | (refine' xAt (by decide) rfl (.inl rfl) rfl rfl h) | (refine' xAr rfl rfl rfl inferInstance ?hm ?hn rfl h; (case hm => first | with_reducible assumption | repeat (first | exact .head _ | with_reducible assumption | apply mC)); (case hn => first | rfl | simp)) | (refine' xAo rfl rfl rfl inferInstance ?hm ?hv ?hn rfl h; (case hm => first | with_reducible assumption | repeat (first | exact .head _ | with_reducible assumption | apply mC)); (case hv => first | with_reducible assumption | (simp only [kC, kD, kE, kF]; try rfl)); (case hn => first | rfl | simp)) | (refine' xAi rfl rfl rfl inferInstance ?hm ?hv rfl h; (case hm => first | with_reducible assumption | repeat (first | exact .head _ | with_reducible assumption | apply mC)); (case hv => first | rfl | with_reducible assumption)) | ((first | refine' xAe (by decide) rfl rfl rfl rfl (fun w => ?hq) rfl h | refine' xBb (by decide) rfl rfl rfl rfl (fun w => ?hq) rfl h | refine' xAp (by decide) rfl rfl rfl (fun w => ?hq) rfl h | refine' xAd (by decide) rfl rfl rfl (fun w => ?hq) rfl h | refine' xAq (by decide) rfl rfl rfl (fun w => ?hq) rfl h | refine' xBa (by decide) rfl rfl rfl rfl (fun w => ?hq) rfl h | refine' xCq (by decide) rfl rfl rfl (fun w => ?hq) rfl h); (case hq => go_simp; try rfl)) | (refine' xBc rfl rfl rfl (xBh Try.func61 (by kernel_rfl) (by kernel_rfl) _) (fun w => x1 w) rfl h)); simp only [kP, kQ, kA, kB]) | (refine' hd_both (b := c2) (by decide) ?hF ?hT ?_; (case hF => intro hb; subst hb; rfl); (case hT => intro hb h; subst hb; (try simp only [cond_true, cond_false]); first | (refine' xAt (by decide) rfl (.inl rfl) rfl rfl h) | (refine' xAr rfl rfl rfl inferInstance ?hm ?hn rfl h; (case hm => first | with_reducible assumption | repeat (first | exact .head _ | with_reducible assumption | apply mC)); (case hn => first | rfl | simp)) | (refine' xAo rfl rfl rfl inferInstance ?hm ?hv ?hn rfl h; (case hm => first | with_reducible assumption | repeat (first | exact .head _ | with_reducible assumption | apply mC)); (case hv => first | with_reducible assumption | (simp only [kC, kD, kE, kF]; try rfl)); (case hn => first | rfl | simp)) | (refine' xAi rfl rfl rfl inferInstance ?hm ?hv rfl h; (case hm => first | with_reducible assumption | repeat (first | exact .head _ | with_reducible assumption | apply mC)); (case hv => first | rfl | with_reducible assumption)) | ((first | refine' xAe (by decide) rfl rfl rfl rfl (fun w => ?hq) rfl h | refine' xBb (by decide) rfl rfl rfl rfl (fun w => ?hq) rfl h | refine' xAp (by decide) rfl rfl rfl (fun w => ?hq) rfl h | refine' xAd (by decide) rfl rfl rfl (fun w => ?hq) rfl h | refine' xAq (by decide) rfl rfl rfl (fun w => ?hq) rfl h | refine' xBa (by decide) rfl rfl rfl rfl (fun w => ?hq) rfl h | refine' xCq (by decide) rfl rfl rfl (fun w => ?hq) rfl h); (case hq => go_simp; try rfl)) | (refine' xBc rfl rfl rfl (xBh Try.func61 (by kernel_rfl) (by kernel_rfl) _) (fun w => x2 w) rfl h)); simp only [kP, kQ, kA, kB]) | (refine' hd_both (b := c3) (by decide) ?hF ?hT ?_; (case hF => intro hb; subst hb; rfl); (case hT => intro hb h; subst hb; (try simp only [cond_true, cond_false]); first | (refine' xAt (by decide) rfl (.inl rfl) rfl rfl h) | (refine' xAr rfl rfl rfl inferInstance ?hm ?hn rfl h; (case hm => first | with_reducible assumption | repeat (first | exact .head _ | with_reducible assumption | apply mC)); (case hn => first | rfl | simp)) | (refine' xAo rfl rfl rfl inferInstance ?hm ?hv ?hn rfl h; (case hm => first | with_reducible assumption | repeat (first | exact .head _ | with_reducible assumption | apply mC)); (case hv => first | with_reducible assumption | (simp only [kC, kD, kE, kF]; try rfl)); (case hn => first | rfl | simp)) | (refine' xAi rfl rfl rfl inferInstance ?hm ?hv rfl h; (case hm => first | with_reducible assumption | repeat (first | exact .head _ | with_reducible assumption | apply mC)); (case hv => first | rfl | with_reducible assumption)) | ((first | refine' xAe (by decide) rfl rfl rfl rfl (fun w => ?hq) rfl h | refine' xBb (by decide) rfl rfl rfl rfl (fun w => ?hq) rfl h | refine' xAp (by decide) rfl rfl rfl (fun w => ?hq) rfl h | refine' xAd (by decide) rfl rfl rfl (fun w => ?hq) rfl h | refine' xAq (by decide) rfl rfl rfl (fun w => ?hq) rfl h | refine' xBa (by decide) rfl rfl rfl rfl (fun w => ?hq) rfl h | refine' xCq (by decide) rfl rfl rfl (fun w => ?hq) rfl h); (case hq => go_simp; try rfl)) | (refine' xBc rfl rfl rfl (xBh Try.func51 (by kernel_rfl) (by kernel_rfl) _) (fun w => o1 w) rfl h)); simp only [kP, kQ, kA, kB]) | (refine' hd_both (b := c4) (by decide) ?hF ?hT ?_; (case hF => intro hb; subst hb; rfl); (case hT => intro hb h; subst hb; (try simp only [cond_true, cond_false]); first | (refine' xAt (by decide) rfl (.inl rfl) rfl rfl h) | (refine' xAr rfl rfl rfl inferInstance ?hm ?hn rfl h; (case hm => first | with_reducible assumption | repeat (first | exact .head _ | with_reducible assumption | apply mC)); (case hn => first | rfl | simp)) | (refine' xAo rfl rfl rfl inferInstance ?hm ?hv ?hn rfl h; (case hm => first | with_reducible assumption | repeat (first | exact .head _ | with_reducible assumption | apply mC)); (case hv => first | with_reducible assumption | (simp only [kC, kD, kE, kF]; try rfl)); (case hn => first | rfl | simp)) | (refine' xAi rfl rfl rfl inferInstance ?hm ?hv rfl h; (case hm => first | with_reducible assumption | repeat (first | exact .head _ | with_reducible assumption | apply mC)); (case hv => first | rfl | with_reducible assumption)) | ((first | refine' xAe (by decide) rfl rfl rfl rfl (fun w => ?hq) rfl h | refine' xBb (by decide) rfl rfl rfl rfl (fun w => ?hq) rfl h | refine' xAp (by decide) rfl rfl rfl (fun w => ?hq) rfl h | refine' xAd (by decide) rfl rfl rfl (fun w => ?hq) rfl h | refine' xAq (by decide) rfl rfl rfl (fun w => ?hq) rfl h | refine' xBa (by decide) rfl rfl rfl rfl (fun w => ?hq) rfl h | refine' xCq (by decide) rfl rfl rfl (fun w => ?hq) rfl h); (case hq => go_simp; try rfl)) | (refine' xBc rfl rfl rfl (xBh Try.func51 (by kernel_rfl) (by kernel_rfl) _) (fun w => o1 w) rfl h)); simp only [kP, kQ, kA, kB])); try (case ha => simp only [kP, kQ, kA, kB]; try rfl))
  refine xBp (hK _ _ ?_)
  clear hK K
  refine xBo (fun Q hQ => ?_)
  try simp only [List.nil_append, List.cons_append]
  repeat ((first | refine' xAx rfl (.inl rfl) rfl ?hk ?ha ?_ | refine' xAx rfl (.inr rfl) rfl ?hk ?ha ?_ | (refine' xAl rfl rfl rfl inferInstance rfl ?hs rfl rfl ?hn ?hk ?ha ?_; (case hs => repeat (first | exact xAs.head | apply xAs.tail)); (case hn => first | rfl | simp)) | (refine' xAh rfl rfl rfl inferInstance rfl rfl ?hs ?hn ?hl ?hk ?ha ?_; (case hs => repeat (first | exact xAs.head | apply xAs.tail)); (case hn => first | exact oD rfl | (show _ < 4; with_reducible assumption) | (simp; try omega)); (case hl => first | with_reducible assumption | (simp only [nl, kA, kB]; first | done | rfl) | rfl)) | (refine' xAk rfl rfl rfl inferInstance rfl rfl ?hvn ?hs ?hn ?hl ?hk ?ha ?_; (case hvn => first | rfl | simp); (case hs => repeat (first | exact xAs.head | apply xAs.tail)); (case hn => first | exact oD rfl | (show _ < 4; with_reducible assumption) | (simp; try omega)); (case hl => first | with_reducible assumption | (simp only [nl, kA, kB]; first | done | rfl) | rfl)) | (refine' xBj rfl (fun w => ?hq) ?hk ?ha ?_; (case hq => go_simp; try rfl))); (case hk => intro p hp; first | exact absurd hp List.not_mem_nil | (obtain rfl := List.mem_singleton.1 hp; repeat (first | exact List.Mem.head _ | with_reducible assumption | apply mC))); (case ha => simp only [kP, kQ, kA, kB]; try rfl))
  refine xBn (fun w hR => hQ _ _ ?_)
  clear hQ Q
  go_wp2_with (first | (refine' xAb hR rfl rfl rfl ?_; clear hR; intro blk w hR) | (refine' xAa hR rfl rfl inferInstance ?_; clear hR; intro blk w hR) | (refine' aFq hR rfl rfl rfl inferInstance ?_) | (refine' aGq hR rfl rfl rfl inferInstance ?_) | (refine' aHq hR rfl rfl rfl inferInstance ?_) | (refine' aDq hR rfl rfl rfl inferInstance rfl ?_; clear hR; intro w hR) | (refine' aEq hR rfl rfl rfl inferInstance rfl rfl ?_; clear hR; intro w hR) | fail)
  go_ret
  exact ⟨rfl, hR.weaken (List.sublist_append_right [_, _, _, _, _, _] _)⟩
end
end Go.Proofs.Ytdagdfcbnhfdkaa
