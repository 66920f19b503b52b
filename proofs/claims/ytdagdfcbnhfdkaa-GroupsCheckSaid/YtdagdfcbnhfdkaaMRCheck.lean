/- The contract of balefireref07.Check. -/
import Derived.Test.YtdagdfcbnhfdkaaMRHoldsB
set_option linter.unusedVariables false
set_option linter.unusedSimpArgs false
namespace Go.Proofs.Ytdagdfcbnhfdkaa
open Go.RowKit
attribute [local irreducible] Calls Instr.build Instr.buildSlice
section
variable {B0 : Nat} {w0 w : World} {L : List (Nat × Obj)}
theorem rholds_any (r : RT) : ∀ {w : World} {l : List Value} {L : List (Nat × Obj)}, RAt B0 w0 [] r l → Rep B0 w0 L w → Calls Try.prog 101 #[.agg l.toArray] w fun e w' => RHoldsOut B0 w0 L r e w' := by
  induction r with
  | leaf => intro w l L hl; exact hl.elim
  | node n t k p ih =>
    intro w l L hl hR
    by_cases h : n < 4294967296
    · exact rholds_low n t k p hl h hR
    · exact rholds_high n t k p hl (by omega) (fun i => ih i) hR
set_option maxRecDepth 100000 in
set_option maxHeartbeats 4000000 in
theorem rcheck_any (r : RT) {l : List Value} (hr : RAt B0 w0 [] r l) (b : Bool) (hb : b = true ↔ xCl r ∧ cntR r ≤ 32) (hR : Rep B0 w0 L w) : Calls Try.prog 58 #[.agg l.toArray] w fun e w' => e = .returned (.bool b) ∧ Rep B0 w0 L w' := by
  obtain ⟨t, a, k, c, rfl, hn, ht⟩ := hr.row
  have tv := rr_v r.num t (.slice a k c)
  have hm := fun (L' : List (Nat × Obj)) (w : World) (hR : Rep B0 w0 L' w) => rmany_any r 1 (hr.any (L := L')) (by decide) hR
  have hc := cntR_pos r
  obtain ⟨m, hmn⟩ : ∃ m : Nat, manyN 1 (cntR r - 1) = m := ⟨_, rfl⟩
  have hm32 : (m : Int) ≤ 32 ↔ cntR r ≤ 32 := by
    rw [← hmn]
    unfold manyN
    omega
  simp only [hmn] at hm
  by_cases h : cntR r ≤ 32
  · have f1 : (m : Int) ≤ 32 := hm32.2 h
    have f1' : decide ((m : Int) ≤ 32) = true := decide_eq_true f1
    have ch : ∀ (L' : List (Nat × Obj)) (w : World), Rep B0 w0 L' w → Calls Try.prog 101 #[.agg (rrow r.num t (.slice a k c)).toArray] w fun e w' => e = .returned (.bool b) ∧ Rep B0 w0 L' w' := fun L' w hR => (rholds_any r hr hR).mono fun e w' ⟨b', he, h1, hR⟩ => by
      have hbb : b' = b := Bool.eq_iff_iff.2 (h1.trans ⟨fun hg => hb.2 ⟨hg, h⟩, fun hb' => (hb.1 hb').1⟩)
      rw [hbb] at he
      exact ⟨he, hR⟩
    clear hr hb h hm32 hc hmn
    go_enter Try.func58, Try.ntmps58
    go_wp2_with (first | go_skip | (refine' xAb hR rfl rfl rfl ?_; clear hR; intro blk w hR) | (refine' xAa hR rfl rfl inferInstance ?_; clear hR; intro blk w hR) | (refine' aFq hR rfl rfl rfl inferInstance ?_) | (refine' aGq hR rfl rfl rfl inferInstance ?_) | (refine' aHq hR rfl rfl rfl inferInstance ?_) | (refine' aDq hR rfl rfl rfl inferInstance rfl ?_; clear hR; intro w hR) | (refine' aEq hR rfl rfl rfl inferInstance rfl rfl ?_; clear hR; intro w hR) | (refine' xAg hR rfl rfl rfl inferInstance ?hm ?hn ?_; (case hm => first | with_reducible assumption | repeat (first | exact .head _ | with_reducible assumption | apply mC)); (case hn => first | rfl | simp)) | (refine' xAc hR rfl rfl rfl inferInstance ?hm ?hv ?_; (case hm => first | with_reducible assumption | repeat (first | exact .head _ | with_reducible assumption | apply mC)); (case hv => first | rfl | with_reducible assumption)) | (refine' xAz hR rfl rfl rfl inferInstance ?hm ?hv ?hn ?_; (case hm => first | with_reducible assumption | repeat (first | exact .head _ | with_reducible assumption | apply mC)); (case hv => first | with_reducible assumption | (simp only [kC, kD, kE, kF]; try rfl)); (case hn => first | rfl | simp)) | (go_at_call 100; refine (hm _ _ hR).mono ?_; clear hR; rintro e w ⟨rfl, hR⟩) | (go_at_call 101; refine (ch _ _ hR).mono ?_; clear hR; rintro e w ⟨rfl, hR⟩))
    go_ret
    exact ⟨rfl, hR.drop1⟩
  · have f1 : ¬ (m : Int) ≤ 32 := fun h' => h (hm32.1 h')
    have f1' : decide ((m : Int) ≤ 32) = false := decide_eq_false f1
    have hbf : b = false := by
      cases b
      · rfl
      · exact absurd (hb.1 rfl).2 h
    subst hbf
    clear hr hb h hm32 hc hmn
    go_enter Try.func58, Try.ntmps58
    go_wp2_with (first | go_skip | (refine' xAb hR rfl rfl rfl ?_; clear hR; intro blk w hR) | (refine' xAa hR rfl rfl inferInstance ?_; clear hR; intro blk w hR) | (refine' aFq hR rfl rfl rfl inferInstance ?_) | (refine' aGq hR rfl rfl rfl inferInstance ?_) | (refine' aHq hR rfl rfl rfl inferInstance ?_) | (refine' aDq hR rfl rfl rfl inferInstance rfl ?_; clear hR; intro w hR) | (refine' aEq hR rfl rfl rfl inferInstance rfl rfl ?_; clear hR; intro w hR) | (refine' xAg hR rfl rfl rfl inferInstance ?hm ?hn ?_; (case hm => first | with_reducible assumption | repeat (first | exact .head _ | with_reducible assumption | apply mC)); (case hn => first | rfl | simp)) | (refine' xAc hR rfl rfl rfl inferInstance ?hm ?hv ?_; (case hm => first | with_reducible assumption | repeat (first | exact .head _ | with_reducible assumption | apply mC)); (case hv => first | rfl | with_reducible assumption)) | (refine' xAz hR rfl rfl rfl inferInstance ?hm ?hv ?hn ?_; (case hm => first | with_reducible assumption | repeat (first | exact .head _ | with_reducible assumption | apply mC)); (case hv => first | with_reducible assumption | (simp only [kC, kD, kE, kF]; try rfl)); (case hn => first | rfl | simp)) | (go_at_call 100; refine (hm _ _ hR).mono ?_; clear hR; rintro e w ⟨rfl, hR⟩))
    go_ret
    exact ⟨rfl, hR.drop1⟩
end
end Go.Proofs.Ytdagdfcbnhfdkaa
