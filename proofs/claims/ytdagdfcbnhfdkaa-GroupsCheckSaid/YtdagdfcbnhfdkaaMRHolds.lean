/- The contract of balefireref07.holds at small numbers. -/
import Derived.Test.YtdagdfcbnhfdkaaMRSmall
import Derived.Test.YtdagdfcbnhfdkaaMHolds
import Derived.Test.YtdagdfcbnhfdkaaMW
set_option linter.unusedVariables false
set_option linter.unusedSimpArgs false
namespace Go.Proofs.Ytdagdfcbnhfdkaa
open Go.RowKit
attribute [local irreducible] Calls Instr.build Instr.buildSlice
theorem rexp_lit {a n m r : Nat} {e : Int} (ha : a < B) (hn : n < B) (hm : m < B) (hr : (if okE a m then powN a n m else 0) = r) (he : (if okE a m then (0 : Int) else 1) = e) (w : World) : Calls Try.prog 53 #[num a, num n, num m] w fun e' w' =>
    e' = .returned (.tuple #[num r, .int .i64 e]) ∧ Below w.heap.size w w' := by
  have := ref04_exp a n m ha hn hm w
  rwa [hr, he] at this
theorem rsub_lit {a b m r : Nat} {e : Int} (ha : a < B) (hb : b < B) (hm : m < B) (hr : (if okM a b m then subN a b m else 0) = r) (he : (if okM a b m then (0 : Int) else 1) = e) (w : World) : Calls Try.prog 136 #[num a, num b, num m] w fun e' w' =>
    e' = .returned (.tuple #[num r, .int .i64 e]) ∧ Below w.heap.size w w' := by
  have := ref04_sub a b m ha hb hm w
  rwa [hr, he] at this
theorem rcom_lit {a b r : Nat} (ha : a < B) (hb : b < B) (hr : gcdN a b = r) (w : World) : Calls Try.prog 137 #[num a, num b] w fun e' w' => e' = .returned (num r) ∧ Below w.heap.size w w' := by
  have := refCommon_any a b ha hb w
  rwa [hr] at this
def RHoldsOut (B0 : Nat) (w0 : World) (L : List (Nat × Obj)) (r : RT) (e : Ending) (w' : World) : Prop := ∃ b : Bool, e = .returned (.bool b) ∧ (b = true ↔ xCl r) ∧ Rep B0 w0 L w'
section
variable {B0 : Nat} {w0 : World}
set_option maxRecDepth 100000 in
set_option maxHeartbeats 8000000 in
theorem rholds_low (n t k : Nat) (p : Nat → RT) {w : World} {l : List Value} {L : List (Nat × Obj)} (hl : RAt B0 w0 [] (.node n t k p) l) (hn : n < 4294967296) (hR : Rep B0 w0 L w) :
    Calls Try.prog 101 #[.agg l.toArray] w fun e w' => RHoldsOut B0 w0 L (.node n t k p) e w' := by
  obtain ⟨hB, htB, a, cap, V, rfl, _, _, _, _⟩ := hl
  have tn := rr_n n t (.slice a k cap)
  have tt := rr_t n t (.slice a k cap)
  have ta := rr_v n t (.slice a k cap)
  have tw := rr_w n t (.slice a k cap)
  have cb := fun w => refBits_any n hB w
  have hl : (blen n : Int) ≤ 32 := by
    have := (xBq n 32).mpr (by omega)
    omega
  have hl' : decide ((blen n : Int) ≤ 32) = true := decide_eq_true hl
  have en : wd n 0 = (n : Int) := by rw [wd_eq]; unfold w64; omega
  have c1 := fun w => rsmall_any n (by omega) w
  rw [← en] at c1
  have hgs := good_small (t := t) (k := k) (p := p) hn
  have hsm : smallB n = true ↔ IsSmall n := ⟨fun h => Classical.byContradiction fun hn => (by rw [smallB_no hn] at h; cases h), smallB_yes⟩
  obtain ⟨q, hq⟩ : ∃ q : Bool, ((k : Int) == 0) = q := ⟨_, rfl⟩
  have hq0 : q = true ↔ k = 0 := by rw [← hq, beq_iff_eq]; omega
  obtain ⟨s, hs'⟩ : ∃ s, smallB n = s := ⟨_, rfl⟩
  obtain ⟨z, hz⟩ : ∃ z, eqN t 0 = z := ⟨_, rfl⟩
  have hz0 : z = true ↔ t = 0 := by
    rw [← hz]
    by_cases h : t = 0
    · rw [xBw h]; exact ⟨fun _ => h, fun _ => rfl⟩
    · rw [xBz htB B_pos h]; exact ⟨fun h => (by cases h), fun h' => absurd h' h⟩
  rw [hs'] at hsm c1
  have hres : (s = true ∧ z = true ∧ q = true) ↔ xCl (.node n t k p) := by rw [hgs, hsm, hz0, hq0]
  replace hres := Held.mk hres
  clear hgs hsm hq0 hz0 hs' en hn
  generalize (blen n : Int) = bl at *
  have hcase : s = false ∨ (s = true ∧ z = false) ∨ (s = true ∧ z = true ∧ q = false) ∨ (s = true ∧ z = true ∧ q = true) := by
    cases s <;> cases z <;> cases q <;> simp
  have hno : ∀ b' : Bool, ¬ (s = true ∧ z = true ∧ q = true) → b' = false → (b' = true ↔ xCl (.node n t k p)) := fun b' h1 h2 => by
    rw [h2]
    exact ⟨fun h => (by cases h), fun h => absurd (hres.out.2 h) h1⟩
  replace hno := Held.mk hno
  rcases hcase with rfl | ⟨rfl, rfl⟩ | ⟨rfl, rfl, rfl⟩ | ⟨rfl, rfl, rfl⟩
  all_goals
    go_enter Try.func101, Try.ntmps101
    go_wp2_with (first | go_skip | (refine' xAb hR rfl rfl rfl ?_; clear hR; intro blk w hR) | (refine' xAa hR rfl rfl inferInstance ?_; clear hR; intro blk w hR) | (refine' aFq hR rfl rfl rfl inferInstance ?_) | (refine' aGq hR rfl rfl rfl inferInstance ?_) | (refine' aHq hR rfl rfl rfl inferInstance ?_) | (refine' aDq hR rfl rfl rfl inferInstance rfl ?_; clear hR; intro w hR) | (refine' aEq hR rfl rfl rfl inferInstance rfl rfl ?_; clear hR; intro w hR) | (refine' xAg hR rfl rfl rfl inferInstance ?hm ?hn ?_; (case hm => first | with_reducible assumption | repeat (first | exact .head _ | with_reducible assumption | apply mC)); (case hn => first | rfl | simp)) | (refine' xAc hR rfl rfl rfl inferInstance ?hm ?hv ?_; (case hm => first | with_reducible assumption | repeat (first | exact .head _ | with_reducible assumption | apply mC)); (case hv => first | rfl | with_reducible assumption)) | (refine' xAz hR rfl rfl rfl inferInstance ?hm ?hv ?hn ?_; (case hm => first | with_reducible assumption | repeat (first | exact .head _ | with_reducible assumption | apply mC)); (case hv => first | with_reducible assumption | (simp only [kC, kD, kE, kF]; try rfl)); (case hn => first | rfl | simp)) | (go_at_call 97; refine (cb _).mono ?_; rintro e w ⟨rfl, hb⟩; replace hR := hR.call hb; clear hb) | (go_at_call 134; refine (c1 _).mono ?_; rintro e w ⟨rfl, hb⟩; replace hR := hR.call hb; clear hb))
    go_ret
  · exact ⟨false, rfl, hno.out _ (by simp) rfl, hR.drop1⟩
  · exact ⟨false, rfl, hno.out _ (by simp) rfl, hR.drop1⟩
  · exact ⟨false, rfl, hno.out _ (by simp) rfl, hR.drop1⟩
  · exact ⟨true, rfl, ⟨fun _ => hres.out.1 (by simp), fun _ => rfl⟩, hR.drop1⟩
end
end Go.Proofs.Ytdagdfcbnhfdkaa
