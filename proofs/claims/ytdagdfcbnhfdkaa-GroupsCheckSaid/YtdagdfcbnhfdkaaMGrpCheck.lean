/- The walk of balefirelaw08.GroupsCheck. -/
import Derived.Test.YtdagdfcbnhfdkaaMRGrpC
import Derived.Test.YtdagdfcbnhfdkaaMS
import Derived.Deep.Cut
set_option linter.unusedVariables false
set_option linter.unusedSimpArgs false
namespace Go.Proofs.Ytdagdfcbnhfdkaa
open Go.RowKit
attribute [local irreducible] Calls
theorem NOwn.twin {B0 : Nat} {w0 : World} {L : List (Nat × Obj)} {f : Nat → Nat} {g cap n : Nat} {cur : List Value} (h : NOwn cap cur (n + 1) (twN f n)) (hm : (g, Obj.cells cur.toArray 24) ∈ L) (hlt : ∀ j, j < n → f j < B) : NAt B0 w0 L (some ⟨g, 0, none⟩) n cap f :=
  ⟨by have := h.le; omega, h.big, hlt, fun _ => ⟨g, 0, rfl, fun w hw j hj => by
    rw [Nat.zero_add]
    have := h.row (j := j) (by omega)
    rw [twN_lt f hj] at this
    exact hw.rangeAt hm this⟩⟩
set_option maxRecDepth 100000 in
set_option maxHeartbeats 8000000 in
theorem groupscheck_walk (W : World) (p q g h : Nat) (hp : p < B) (hq : q < B) (hg : g < B) (hh : h < B) (l1 l2 : List Value) (r1 r2 : RT) (a1 : Option Addr) (n1 c1 : Nat) (f1 : Nat → Nat) (a2 : Option Addr) (n2 c2 : Nat) (f2 : Nat → Nat) (S1 : RAt W.heap.size W [] r1 l1) (S2 : RAt W.heap.size W [] r2 l2) (N1 : NAt W.heap.size W [] a1 n1 c1 f1) (N2 : NAt W.heap.size W [] a2 n2 c2 f2) :
    Calls Try.prog 4 #[grp p q g h, .agg (l1 ++ l2).toArray, .agg #[.slice a1 n1 c1, .slice a2 n2 c2]] W fun e w' => e = .returned (.bool true) ∧ Below W.heap.size W w' := by
  classical
  have hR := Rep.init W
  have e9 := S1.len
  have e9' := S2.len
  obtain ⟨ll, hll⟩ : ∃ x, l1 ++ l2 = x := ⟨_, rfl⟩
  have tl1 : (ll.drop 0).take 9 = l1 := by rw [← hll, List.drop_zero, List.take_append_of_le_length (by omega), List.take_of_length_le (by omega)]
  have tl2 : (ll.drop 9).take 9 = l2 := by rw [← hll, ← e9, List.drop_left, List.take_of_length_le (by omega)]
  have hl18 : ll.length = 18 := by rw [← hll, List.length_append]; omega
  rw [hll]
  clear hll
  obtain ⟨t1, aa1, q1, p1, rfl, -, -⟩ := S1.row
  obtain ⟨t2, aa2, q2, p2, rfl, -, -⟩ := S2.row
  have cs1 := fun (L : List (Nat × Obj)) (w : World) (hR : Rep W.heap.size W L w) => rsize_any r1 (S1.any (L := L)) hR
  have cs2 := fun (L : List (Nat × Obj)) (w : World) (hR : Rep W.heap.size W L w) => rsize_any r2 (S2.any (L := L)) hR
  obtain ⟨y1, hy1⟩ : ∃ y, rszN r1 = y := ⟨_, rfl⟩
  obtain ⟨y2, hy2⟩ : ∃ y, rszN r2 = y := ⟨_, rfl⟩
  rw [hy1] at cs1
  rw [hy2] at cs2
  clear hy1 hy2
  by_cases k1 : 20000 < y1
  case pos =>
    have k1' : decide (20000 < y1) = true := decide_eq_true k1
    clear S1 S2 N1 N2 cs2
    go_enter Try.func4, Try.ntmps4
    go_wp2_with (first | go_skip | (refine' xAb hR rfl rfl rfl ?_; clear hR; intro blk w hR) | (refine' xAa hR rfl rfl inferInstance ?_; clear hR; intro blk w hR) | (refine' aFq hR rfl rfl rfl inferInstance ?_) | (refine' aGq hR rfl rfl rfl inferInstance ?_) | (refine' aHq hR rfl rfl rfl inferInstance ?_) | (refine' aDq hR rfl rfl rfl inferInstance rfl ?_; clear hR; intro w hR) | (refine' aEq hR rfl rfl rfl inferInstance rfl rfl ?_; clear hR; intro w hR) | (refine' xAg hR rfl rfl rfl inferInstance ?hm ?hn ?_; (case hm => first | with_reducible assumption | repeat (first | exact .head _ | with_reducible assumption | apply mC)); (case hn => first | rfl | simp)) | (refine' xAc hR rfl rfl rfl inferInstance ?hm ?hv ?_; (case hm => first | with_reducible assumption | repeat (first | exact .head _ | with_reducible assumption | apply mC)); (case hv => first | rfl | with_reducible assumption)) | (refine' xAz hR rfl rfl rfl inferInstance ?hm ?hv ?hn ?_; (case hm => first | with_reducible assumption | repeat (first | exact .head _ | with_reducible assumption | apply mC)); (case hv => first | with_reducible assumption | (simp only [kC, kD, kE, kF]; try rfl)); (case hn => first | rfl | simp)) | (go_at_call 13; refine (cs1 _ _ hR).mono ?_; clear hR; rintro e w ⟨rfl, hR⟩))
    go_ret
    exact ⟨rfl, hR.below⟩
  have k1' : decide (20000 < y1) = false := decide_eq_false k1
  by_cases k2 : 20000 < y2
  case pos =>
    have k2' : decide (20000 < y2) = true := decide_eq_true k2
    clear S1 S2 N1 N2
    go_enter Try.func4, Try.ntmps4
    go_wp2_with (first | (refine' xAb hR rfl rfl rfl ?_; clear hR; intro blk w hR) | (refine' xAa hR rfl rfl inferInstance ?_; clear hR; intro blk w hR) | (refine' aFq hR rfl rfl rfl inferInstance ?_) | (refine' aGq hR rfl rfl rfl inferInstance ?_) | (refine' aHq hR rfl rfl rfl inferInstance ?_) | (refine' aDq hR rfl rfl rfl inferInstance rfl ?_; clear hR; intro w hR) | (refine' aEq hR rfl rfl rfl inferInstance rfl rfl ?_; clear hR; intro w hR) | (refine' xAg hR rfl rfl rfl inferInstance ?hm ?hn ?_; (case hm => first | with_reducible assumption | repeat (first | exact .head _ | with_reducible assumption | apply mC)); (case hn => first | rfl | simp)) | (refine' xAc hR rfl rfl rfl inferInstance ?hm ?hv ?_; (case hm => first | with_reducible assumption | repeat (first | exact .head _ | with_reducible assumption | apply mC)); (case hv => first | rfl | with_reducible assumption)) | (refine' xAz hR rfl rfl rfl inferInstance ?hm ?hv ?hn ?_; (case hm => first | with_reducible assumption | repeat (first | exact .head _ | with_reducible assumption | apply mC)); (case hv => first | with_reducible assumption | (simp only [kC, kD, kE, kF]; try rfl)); (case hn => first | rfl | simp)) | go_skip | (go_at_call 13; refine (cs1 _ _ hR).mono ?_; clear hR; rintro e w ⟨rfl, hR⟩) | (go_at_call 13; refine (cs2 _ _ hR).mono ?_; clear hR; rintro e w ⟨rfl, hR⟩))
    go_ret
    exact ⟨rfl, hR.below⟩
  have k2' : decide (20000 < y2) = false := decide_eq_false k2
  by_cases k3 : 100 < n1
  case pos =>
    have k3' : (100 : Int) < (n1 : Int) := by omega
    have k3'' : decide ((100 : Int) < (n1 : Int)) = true := decide_eq_true k3'
    clear S1 S2 N1 N2
    go_enter Try.func4, Try.ntmps4
    go_wp2_with (first | (refine' xAb hR rfl rfl rfl ?_; clear hR; intro blk w hR) | (refine' xAa hR rfl rfl inferInstance ?_; clear hR; intro blk w hR) | (refine' aFq hR rfl rfl rfl inferInstance ?_) | (refine' aGq hR rfl rfl rfl inferInstance ?_) | (refine' aHq hR rfl rfl rfl inferInstance ?_) | (refine' aDq hR rfl rfl rfl inferInstance rfl ?_; clear hR; intro w hR) | (refine' aEq hR rfl rfl rfl inferInstance rfl rfl ?_; clear hR; intro w hR) | (refine' xAg hR rfl rfl rfl inferInstance ?hm ?hn ?_; (case hm => first | with_reducible assumption | repeat (first | exact .head _ | with_reducible assumption | apply mC)); (case hn => first | rfl | simp)) | (refine' xAc hR rfl rfl rfl inferInstance ?hm ?hv ?_; (case hm => first | with_reducible assumption | repeat (first | exact .head _ | with_reducible assumption | apply mC)); (case hv => first | rfl | with_reducible assumption)) | (refine' xAz hR rfl rfl rfl inferInstance ?hm ?hv ?hn ?_; (case hm => first | with_reducible assumption | repeat (first | exact .head _ | with_reducible assumption | apply mC)); (case hv => first | with_reducible assumption | (simp only [kC, kD, kE, kF]; try rfl)); (case hn => first | rfl | simp)) | go_skip | (go_at_call 13; refine (cs1 _ _ hR).mono ?_; clear hR; rintro e w ⟨rfl, hR⟩) | (go_at_call 13; refine (cs2 _ _ hR).mono ?_; clear hR; rintro e w ⟨rfl, hR⟩))
    go_ret
    exact ⟨rfl, hR.below⟩
  have k3' : ¬ (100 : Int) < (n1 : Int) := by omega
  have k3'' : decide ((100 : Int) < (n1 : Int)) = false := decide_eq_false k3'
  by_cases k4 : 100 < n2
  case pos =>
    have k4' : (100 : Int) < (n2 : Int) := by omega
    have k4'' : decide ((100 : Int) < (n2 : Int)) = true := decide_eq_true k4'
    clear S1 S2 N1 N2
    go_enter Try.func4, Try.ntmps4
    go_wp2_with (first | (refine' xAb hR rfl rfl rfl ?_; clear hR; intro blk w hR) | (refine' xAa hR rfl rfl inferInstance ?_; clear hR; intro blk w hR) | (refine' aFq hR rfl rfl rfl inferInstance ?_) | (refine' aGq hR rfl rfl rfl inferInstance ?_) | (refine' aHq hR rfl rfl rfl inferInstance ?_) | (refine' aDq hR rfl rfl rfl inferInstance rfl ?_; clear hR; intro w hR) | (refine' aEq hR rfl rfl rfl inferInstance rfl rfl ?_; clear hR; intro w hR) | (refine' xAg hR rfl rfl rfl inferInstance ?hm ?hn ?_; (case hm => first | with_reducible assumption | repeat (first | exact .head _ | with_reducible assumption | apply mC)); (case hn => first | rfl | simp)) | (refine' xAc hR rfl rfl rfl inferInstance ?hm ?hv ?_; (case hm => first | with_reducible assumption | repeat (first | exact .head _ | with_reducible assumption | apply mC)); (case hv => first | rfl | with_reducible assumption)) | (refine' xAz hR rfl rfl rfl inferInstance ?hm ?hv ?hn ?_; (case hm => first | with_reducible assumption | repeat (first | exact .head _ | with_reducible assumption | apply mC)); (case hv => first | with_reducible assumption | (simp only [kC, kD, kE, kF]; try rfl)); (case hn => first | rfl | simp)) | go_skip | (go_at_call 13; refine (cs1 _ _ hR).mono ?_; clear hR; rintro e w ⟨rfl, hR⟩) | (go_at_call 13; refine (cs2 _ _ hR).mono ?_; clear hR; rintro e w ⟨rfl, hR⟩))
    go_ret
    exact ⟨rfl, hR.below⟩
  have k4' : ¬ (100 : Int) < (n2 : Int) := by omega
  have k4'' : decide ((100 : Int) < (n2 : Int)) = false := decide_eq_false k4'
  obtain ⟨r, er, hpr⟩ := prodRes_ex p n1 n2 (zsOf f1 f2)
  have b1 : n1 ≤ 1000000 := by omega
  have b2 : n2 ≤ 1000000 := by omega
  have b3 : n1 ≤ 1000 := by omega
  have b4 : n2 ≤ 1000 := by omega
  obtain ⟨s, hs⟩ : ∃ b : Bool, b = true ↔ grpOK p q g h r1 r2 := ⟨decide (grpOK p q g h r1 r2), decide_eq_true_iff⟩
  have gc := fun (L : List (Nat × Obj)) (w : World) (hw : Rep W.heap.size W L w) => gcheck_any hp hq hg hh (S1.any (L := L)) (S2.any (L := L)) s hs hw
  have rc := fun (L : List (Nat × Obj)) (w : World) (hw : Rep W.heap.size W L w) => rgcheck_any hp hq hg hh S1 S2 s hs hw
  have tw1 := fun (L : List (Nat × Obj)) (w : World) (hw : Rep W.heap.size W L w) => twin_nums (N1.any (L := L)) b3 hw
  have tw2 := fun (L : List (Nat × Obj)) (w : World) (hw : Rep W.heap.size W L w) => twin_nums (N2.any (L := L)) b4 hw
  have es := eqN_self r
  have hss : (s == s) = true := by simp
  have fB1 := N1.lt
  have fB2 := N2.lt
  replace fB1 := Held.mk fB1
  replace fB2 := Held.mk fB2
  replace hpr := Held.mk hpr
  replace N1 := Held.mk N1
  replace N2 := Held.mk N2
  clear S1 S2 hs k1 k2 k3 k4
  go_enter Try.func4, Try.ntmps4
  go_wp2_with (first | (refine' xAb hR rfl rfl rfl ?_; clear hR; intro blk w hR) | (refine' xAa hR rfl rfl inferInstance ?_; clear hR; intro blk w hR) | (refine' aFq hR rfl rfl rfl inferInstance ?_) | (refine' aGq hR rfl rfl rfl inferInstance ?_) | (refine' aHq hR rfl rfl rfl inferInstance ?_) | (refine' aDq hR rfl rfl rfl inferInstance rfl ?_; clear hR; intro w hR) | (refine' aEq hR rfl rfl rfl inferInstance rfl rfl ?_; clear hR; intro w hR) | (refine' xAg hR rfl rfl rfl inferInstance ?hm ?hn ?_; (case hm => first | with_reducible assumption | repeat (first | exact .head _ | with_reducible assumption | apply mC)); (case hn => first | rfl | simp)) | (refine' xAc hR rfl rfl rfl inferInstance ?hm ?hv ?_; (case hm => first | with_reducible assumption | repeat (first | exact .head _ | with_reducible assumption | apply mC)); (case hv => first | rfl | with_reducible assumption)) | (refine' xAz hR rfl rfl rfl inferInstance ?hm ?hv ?hn ?_; (case hm => first | with_reducible assumption | repeat (first | exact .head _ | with_reducible assumption | apply mC)); (case hv => first | with_reducible assumption | (simp only [kC, kD, kE, kF]; try rfl)); (case hn => first | rfl | simp)) | go_skip | (go_at_call 13; refine (cs1 _ _ hR).mono ?_; clear hR; rintro e w ⟨rfl, hR⟩) | (go_at_call 13; refine (cs2 _ _ hR).mono ?_; clear hR; rintro e w ⟨rfl, hR⟩) | (go_at_call 17; refine (tw1 _ _ hR).mono ?_; clear hR; rintro e w ⟨g1, d1, rfl, u1, ho1, hR⟩; replace ho1 := Held.mk ho1) | (go_at_call 17; refine (tw2 _ _ hR).mono ?_; clear hR; rintro e w ⟨g2, d2, rfl, u2, ho2, hR⟩; replace ho2 := Held.mk ho2) | (go_at_call 18; refine (gprod_any hp hq (ho1.out.twin (by repeat (first | exact .head _ | apply mC)) fB1.out) (ho2.out.twin (by repeat (first | exact .head _ | apply mC)) fB2.out) b1 b2 hpr.out hR).mono ?_; rintro e w ⟨rfl, hb⟩; replace hR := hR.call hb; clear hb) | (go_at_call 19; refine (rprod_any hp hq (NAt.here N1.out.any hR) (NAt.here N2.out.any hR) b1 b2 hpr.out).mono ?_; rintro e w ⟨rfl, hb⟩; replace hR := hR.call hb; clear hb))
  clear cs1 cs2 tw1 tw2
  refine xAf hR [0, 0, 0, 0, 0, 0, 0, 0, 0, 0, 0, 0, 0, 0, 0, 0, 0, 0, 0, 0, 0, 0, 0, 0, 0, 0, 0, 0, 0, 0, 0, 0, 0, 0, 0, 2] [] xBx (by kernel_rfl) rfl rfl (fun K hK => ?_)
  clear hR
  repeat ((first | (refine xBl ?_) | (refine' xAt (by decide) rfl (.inl rfl) rfl ?ha ?_) | (refine' xAt (by decide) rfl (.inr rfl) rfl ?ha ?_) | (refine' xAr rfl rfl rfl inferInstance ?hm ?hn ?ha ?_; (case hm => first | with_reducible assumption | repeat (first | exact .head _ | with_reducible assumption | apply mC)); (case hn => first | rfl | simp)) | (refine' xAo rfl rfl rfl inferInstance ?hm ?hv ?hn ?ha ?_; (case hm => first | with_reducible assumption | repeat (first | exact .head _ | with_reducible assumption | apply mC)); (case hv => first | with_reducible assumption | (simp only [kC, kD, kE, kF]; try rfl)); (case hn => first | rfl | simp)) | (refine' xAi rfl rfl rfl inferInstance ?hm ?hv ?ha ?_; (case hm => first | with_reducible assumption | repeat (first | exact .head _ | with_reducible assumption | apply mC)); (case hv => first | rfl | with_reducible assumption)) | (refine' xAv rfl rfl rfl inferInstance ?hm ?hv ?hn ?ha ?_; (case hm => first | with_reducible assumption | repeat (first | exact .head _ | with_reducible assumption | apply mC)); (case hv => first | with_reducible assumption | (simp only [kC, kD, kE, kF]; try rfl)); (case hn => first | rfl | simp)) | (refine' xAn rfl rfl rfl inferInstance ?hm ?hv ?ha ?_; (case hm => first | with_reducible assumption | repeat (first | exact .head _ | with_reducible assumption | apply mC)); (case hv => first | rfl | with_reducible assumption)) | ((first | refine' xAe (by decide) rfl rfl rfl rfl (fun w => ?hq) ?ha ?_ | refine' xBb (by decide) rfl rfl rfl rfl (fun w => ?hq) ?ha ?_ | refine' xAp (by decide) rfl rfl rfl (fun w => ?hq) ?ha ?_ | refine' xAd (by decide) rfl rfl rfl (fun w => ?hq) ?ha ?_ | refine' xAq (by decide) rfl rfl rfl (fun w => ?hq) ?ha ?_ | refine' xBa (by decide) rfl rfl rfl rfl (fun w => ?hq) ?ha ?_ | refine' xBf (by decide) rfl rfl rfl rfl rfl rfl (fun w => ?hq) ?ha ?_ | refine' xBd (by decide) rfl rfl (fun w => ?hq) ?ha ?_ | refine' xAw (by decide) rfl rfl rfl (fun w => ?hq) ?ha ?_ | refine' xBe (by decide) rfl rfl rfl (fun w => ?hq) ?ha ?_); (case hq => go_simp; try rfl)) | (refine' xAm (by decide) rfl rfl rfl ?ha ?_) | (refine' xBi (by decide) rfl rfl rfl rfl ?ha ?_) | (refine' xBk (by decide) rfl ?ha ?_) | (refine' xCg rfl rfl rfl (xBh Try.func20 (by kernel_rfl) (by kernel_rfl) _) (fun w hw => gc _ w hw) ?ha ?_) | (refine' xCg rfl rfl rfl (xBh Try.func21 (by kernel_rfl) (by kernel_rfl) _) (fun w hw => rc _ w hw) ?ha ?_) | (refine' xCg rfl rfl rfl (xBh Try.func22 (by kernel_rfl) (by kernel_rfl) _) (fun w hw => left_nums ho1.out (.tail _ (.tail _ (.tail _ (.head _)))) N1.out.any b3 hw) ?ha ?_) | (refine' xCg rfl rfl rfl (xBh Try.func22 (by kernel_rfl) (by kernel_rfl) _) (fun w hw => left_nums ho2.out (.tail _ (.tail _ (.head _))) N2.out.any b4 hw) ?ha ?_)); try (case ha => simp only [kP, kQ, kA, kB]; try rfl))
  refine xBp (hK _ _ ?_)
  clear hK K
  refine xBo (fun Q hQ => ?_)
  try simp only [List.nil_append, List.cons_append]
  repeat ((first | refine' xAx rfl (.inl rfl) rfl ?hk ?ha ?_ | refine' xAx rfl (.inr rfl) rfl ?hk ?ha ?_ | (refine' xAl rfl rfl rfl inferInstance rfl ?hs rfl rfl ?hn ?hk ?ha ?_; (case hs => repeat (first | exact xAs.head | apply xAs.tail)); (case hn => first | rfl | simp)) | (refine' xAh rfl rfl rfl inferInstance rfl rfl ?hs ?hn ?hl ?hk ?ha ?_; (case hs => repeat (first | exact xAs.head | apply xAs.tail)); (case hn => first | exact oD rfl | (show _ < 4; with_reducible assumption) | (simp; try omega)); (case hl => first | with_reducible assumption | (simp only [nl, kA, kB]; first | done | rfl) | rfl)) | (refine' xAk rfl rfl rfl inferInstance rfl rfl ?hvn ?hs ?hn ?hl ?hk ?ha ?_; (case hvn => first | rfl | simp); (case hs => repeat (first | exact xAs.head | apply xAs.tail)); (case hn => first | exact oD rfl | (show _ < 4; with_reducible assumption) | (simp; try omega)); (case hl => first | with_reducible assumption | (simp only [nl, kA, kB]; first | done | rfl) | rfl)) | (refine' xBj rfl (fun w => ?hq) ?hk ?ha ?_; (case hq => go_simp; try rfl))); (case hk => intro p hp; first | exact absurd hp List.not_mem_nil | (obtain rfl := List.mem_singleton.1 hp; repeat (first | exact List.Mem.head _ | with_reducible assumption | apply mC))); (case ha => simp only [kP, kQ, kA, kB]; try rfl))
  refine xBn (fun w hR => hQ _ _ ?_)
  clear hQ Q
  go_wp2_with (first | (refine' xAb hR rfl rfl rfl ?_; clear hR; intro blk w hR) | (refine' xAa hR rfl rfl inferInstance ?_; clear hR; intro blk w hR) | (refine' aFq hR rfl rfl rfl inferInstance ?_) | (refine' aGq hR rfl rfl rfl inferInstance ?_) | (refine' aHq hR rfl rfl rfl inferInstance ?_) | (refine' aDq hR rfl rfl rfl inferInstance rfl ?_; clear hR; intro w hR) | (refine' aEq hR rfl rfl rfl inferInstance rfl rfl ?_; clear hR; intro w hR) | fail)
  go_ret
  exact ⟨rfl, hR.below⟩
end Go.Proofs.Ytdagdfcbnhfdkaa
