/- The contract of the closure in primes.Check, and of primes.Check. -/
import Derived.Test.YtdagdfcbnhfdkaaMP
import Derived.Test.YtdagdfcbnhfdkaaMWilson
set_option linter.unusedVariables false
set_option linter.unusedSimpArgs false
namespace Go.Proofs.Ytdagdfcbnhfdkaa
open Go.RowKit
attribute [local irreducible] Calls Instr.build Instr.buildSlice
theorem good_node (n t k : Nat) (p : Nat → RT) : xCl (.node n t k p) ↔ ((n < 4294967296 ∧ IsSmall n ∧ t = 0 ∧ k = 0) ∨ (4294967296 ≤ n ∧ n < B ∧ (∀ i, i < k → xCl (p i) ∧ (i = 0 ∨ (p (i - 1)).num < (p i).num) ∧ mostN (p i).num (n - 1) ≠ 1) ∧
      n < facB (fun i => mostN (p i).num (n - 1)) k * facB (fun i => mostN (p i).num (n - 1)) k ∧ witR n t k fun i => (p i).num)) := by
  conv => lhs; unfold xCl
theorem good_small {n t k : Nat} {p : Nat → RT} (hn : n < 4294967296) : xCl (.node n t k p) ↔ IsSmall n ∧ t = 0 ∧ k = 0 := by
  rw [good_node]
  constructor
  · rintro (⟨_, h⟩ | ⟨h, _⟩)
    · exact h
    · omega
  · exact fun h => .inl ⟨hn, h⟩
theorem good_big {n t k : Nat} {p : Nat → RT} (hn : 4294967296 ≤ n) (hB : n < B) : xCl (.node n t k p) ↔ (∀ i, i < k → xCl (p i) ∧ (i = 0 ∨ (p (i - 1)).num < (p i).num) ∧ mostN (p i).num (n - 1) ≠ 1) ∧
      n < facB (fun i => mostN (p i).num (n - 1)) k * facB (fun i => mostN (p i).num (n - 1)) k ∧ witR n t k fun i => (p i).num := by
  rw [good_node]
  constructor
  · rintro (⟨h, _⟩ | ⟨_, _, h⟩)
    · omega
    · exact h
  · exact fun h => .inr ⟨hn, hB, h⟩
noncomputable def lastN : (Nat → RT) → Nat → Nat := opq fun p i => if i = 0 then 0 else (p (i - 1)).num
theorem lastN_zero (p : Nat → RT) : lastN p 0 = 0 := by unfold lastN; rw [xBy]; rfl
theorem lastN_succ (p : Nat → RT) (i : Nat) : lastN p (i + 1) = (p i).num := by unfold lastN; rw [xBy]; rfl
theorem lastN_good {p : Nat → RT} {i : Nat} (hp : xCl (p i)) : (i = 0 ∨ (p (i - 1)).num < (p i).num) ↔ lastN p i < (p i).num := by
  unfold lastN
  rw [xBy]
  by_cases h : i = 0
  · simp only [h, if_pos, true_or, true_iff]
    subst h
    have := (good_pr _ hp).1
    omega
  · simp [h]
noncomputable abbrev holdsV (bm bh : Nat) : Value := .func (.func 38) #[] #[.pointer (some ⟨bm, 0, none⟩), .pointer (some ⟨bh, 0, none⟩)]
structure Own7 (B0 : Nat) (w0 : World) (bm bh : Nat) (L0 : List (Nat × Obj)) (Lf : Nat → List (Nat × Obj)) : Prop where
  sub : ∀ m w, Rep B0 w0 (Lf m) w → Rep B0 w0 L0 w
  set : ∀ m m' : Nat, xAs (Lf m) bm (.cells [Value.int .i64 (m : Int)].toArray 3) (.cells [Value.int .i64 (m' : Int)].toArray 3) (Lf m')
  fn : ∀ m, (bh, Obj.cells [holdsV bm bh].toArray 30) ∈ Lf m
theorem Own7.mem {B0 : Nat} {w0 : World} {bm bh : Nat} {L0 : List (Nat × Obj)} {Lf : Nat → List (Nat × Obj)} (h : Own7 B0 w0 bm bh L0 Lf) (m : Nat) : (bm, Obj.cells [Value.int .i64 (m : Int)].toArray 3) ∈ Lf m := (h.set m m).spec.1
theorem Own7.cons {B0 : Nat} {w0 : World} {bm bh : Nat} {L0 : List (Nat × Obj)} {Lf : Nat → List (Nat × Obj)} (h : Own7 B0 w0 bm bh L0 Lf) (p : Nat × Obj) : Own7 B0 w0 bm bh L0 fun m => p :: Lf m :=
  ⟨fun m w hw => h.sub m w hw.drop1, fun m m' => xAs.tail (h.set m m'), fun m => .tail _ (h.fn m)⟩
def HoldsOut (B0 : Nat) (w0 : World) (Lf : Nat → List (Nat × Obj)) (r : RT) (m : Nat) (e : Ending) (w' : World) : Prop :=
  ∃ b : Bool, ∃ m' : Nat, e = .returned (.bool b) ∧ m' ≤ 33 ∧ (b = true ↔ xCl r ∧ m + cntR r ≤ 32) ∧ (b = true → m' = m + cntR r) ∧ Rep B0 w0 (Lf m') w'
section
variable {B0 : Nat} {w0 : World}
set_option maxRecDepth 100000 in
set_option maxHeartbeats 8000000 in
theorem holds_low (bm bh : Nat) (n t k : Nat) (p : Nat → RT) {w : World} {l : List Value} {m : Nat} {L0 : List (Nat × Obj)} {Lf : Nat → List (Nat × Obj)} (hl : RAt B0 w0 L0 (.node n t k p) l) (ho : Own7 B0 w0 bm bh L0 Lf) (hm : m ≤ 32) (hlow : m = 32 ∨ n < 4294967296) (hR : Rep B0 w0 (Lf m) w) :
    Calls Try.prog 38 #[.agg l.toArray, .pointer (some ⟨bm, 0, none⟩), .pointer (some ⟨bh, 0, none⟩)] w fun e w' => HoldsOut B0 w0 Lf (.node n t k p) m e w' := by
  obtain ⟨hB, htB, a, cap, V, rfl, _, _, _, _⟩ := hl
  have hs := ho.set m (m + 1)
  have hm1 := ho.mem (m + 1)
  have em : ((m + 1 : Nat) : Int) = (m : Int) + 1 := by omega
  rw [em] at hs hm1
  have f1 : IntKind.i64.wrap ((m : Int) + 1) = (m : Int) + 1 := by rw [IntKind.wrap_i64]; omega
  have hm0 := ho.mem m
  have tn := rr_n n t (.slice a k cap)
  have tt := rr_t n t (.slice a k cap)
  have ta := rr_v n t (.slice a k cap)
  have tw := rr_w n t (.slice a k cap)
  have hc := cntR_pos (.node n t k p)
  have hck := cntR_len n t k p
  by_cases h32 : m = 32
  · have g1 : (32 : Int) < (m : Int) + 1 := by omega
    have g1' : decide ((32 : Int) < (m : Int) + 1) = true := decide_eq_true g1
    have hfin : ¬ (xCl (.node n t k p) ∧ m + cntR (.node n t k p) ≤ 32) := fun h => by have := h.2; omega
    replace hfin := Held.mk hfin
    clear hlow hc hck h32
    go_enter Try.func38, Try.ntmps38
    go_wp2_with (first | (refine' xAb hR rfl rfl rfl ?_; clear hR; intro blk w hR) | (refine' xAa hR rfl rfl inferInstance ?_; clear hR; intro blk w hR) | (refine' aFq hR rfl rfl rfl inferInstance ?_) | (refine' aGq hR rfl rfl rfl inferInstance ?_) | (refine' aHq hR rfl rfl rfl inferInstance ?_) | (refine' aIq hR rfl rfl rfl inferInstance rfl ?_; clear hR; intro w hR) | (refine' aJq hR rfl rfl rfl inferInstance rfl rfl ?_; clear hR; intro w hR) | fail)
    go_ret
    exact ⟨false, m + 1, rfl, by omega, ⟨fun h => (by cases h), fun h => absurd h hfin.out⟩, fun h => (by cases h), hR.drop1⟩
  have g1 : (m : Int) + 1 ≤ (32 : Int) := by omega
  have g1' : decide ((32 : Int) < (m : Int) + 1) = false := decide_eq_false (by omega)
  have g1'' : ¬ (32 : Int) < (m : Int) + 1 := by omega
  have hn : n < 4294967296 := by omega
  have cb := fun w => bits_any n hB w
  have hl : (blen n : Int) ≤ 32 := by
    have := (xBq n 32).mpr (by omega)
    omega
  have en : wd n 0 = (n : Int) := by rw [wd_eq]; unfold w64; omega
  obtain ⟨n0, hn0⟩ : ∃ n, n = 0 := ⟨_, rfl⟩
  have o0 : ∀ w, Calls Try.prog 40 #[.int .u64 0] w fun e w' => e = .returned (num n0) ∧ Below w.heap.size w w' := fun w => by
    rw [hn0]; exact of_any 0 (by decide) w
  have L0' : n0 < B := lt_B (by omega)
  have c1 := fun w => small_lit n _ (by omega) rfl w
  rw [← en] at c1
  have hgs := good_small (t := t) (k := k) (p := p) hn
  have hsm : smallB n = true ↔ IsSmall n := ⟨fun h => Classical.byContradiction fun hn => (by rw [smallB_no hn] at h; cases h), smallB_yes⟩
  have hk0 : k = 0 → cntR (.node n t k p) = 1 := fun h => by subst h; rfl
  obtain ⟨q, hq⟩ : ∃ q : Bool, ((k : Int) == 0) = q := ⟨_, rfl⟩
  have hq0 : q = true ↔ k = 0 := by rw [← hq, beq_iff_eq]; omega
  obtain ⟨s, hs'⟩ : ∃ s, smallB n = s := ⟨_, rfl⟩
  obtain ⟨z, hz⟩ : ∃ z, eqN t n0 = z := ⟨_, rfl⟩
  have hz0 : z = true ↔ t = 0 := by
    rw [← hz]
    by_cases h : t = n0
    · rw [xBw h]; exact ⟨fun _ => by omega, fun _ => rfl⟩
    · rw [xBz htB L0' h]; exact ⟨fun h => (by cases h), fun h' => absurd (h'.trans hn0.symm) h⟩
  rw [hs'] at hsm c1
  have hres : (s = true ∧ z = true ∧ q = true) ↔ xCl (.node n t k p) := by rw [hgs, hsm, hz0, hq0]
  have hcnt : xCl (.node n t k p) → m + cntR (.node n t k p) = m + 1 := fun h => by rw [hk0 (hgs.1 h).2.2]
  replace hres := Held.mk hres
  replace hcnt := Held.mk hcnt
  clear hgs hsm hk0 hq0 hz0 hs' hlow hc hck h32 en hn0 hn
  generalize (blen n : Int) = bl at *
  have hcase : s = false ∨ (s = true ∧ z = false) ∨ (s = true ∧ z = true ∧ q = false) ∨ (s = true ∧ z = true ∧ q = true) := by
    cases s <;> cases z <;> cases q <;> simp
  have hno : ∀ b' : Bool, ¬ (s = true ∧ z = true ∧ q = true) → b' = false → (b' = true ↔ xCl (.node n t k p) ∧ m + cntR (.node n t k p) ≤ 32) := fun b' h1 h2 => by
    rw [h2]
    exact ⟨fun h => (by cases h), fun h => absurd (hres.out.2 h.1) h1⟩
  replace hno := Held.mk hno
  rcases hcase with rfl | ⟨rfl, rfl⟩ | ⟨rfl, rfl, rfl⟩ | ⟨rfl, rfl, rfl⟩
  all_goals
    go_enter Try.func38, Try.ntmps38
    go_wp2_with (first | (refine' xAb hR rfl rfl rfl ?_; clear hR; intro blk w hR) | (refine' xAa hR rfl rfl inferInstance ?_; clear hR; intro blk w hR) | (refine' aFq hR rfl rfl rfl inferInstance ?_) | (refine' aGq hR rfl rfl rfl inferInstance ?_) | (refine' aHq hR rfl rfl rfl inferInstance ?_) | (refine' aIq hR rfl rfl rfl inferInstance rfl ?_; clear hR; intro w hR) | (refine' aJq hR rfl rfl rfl inferInstance rfl rfl ?_; clear hR; intro w hR) | (go_at_call 39; refine (cb _).mono ?_; rintro e w ⟨rfl, hb⟩; replace hR := hR.call hb; clear hb))
    refine xAf hR [0, 0, 0, 0, 0, 0, 0, 0, 0, 0, 0, 0, 0, 0, 0, 0, 2] [] xBx (by kernel_rfl) rfl rfl (fun K hK => ?_)
    clear hR
    repeat ((first | (refine xBl ?_) | (refine' xAt (by decide) rfl (.inl rfl) rfl ?ha ?_) | (refine' xAt (by decide) rfl (.inr rfl) rfl ?ha ?_) | (refine' xAr rfl rfl rfl inferInstance ?hm ?hn ?ha ?_; (case hm => first | with_reducible assumption | repeat (first | exact .head _ | with_reducible assumption | apply mC)); (case hn => first | rfl | simp)) | (refine' xAo rfl rfl rfl inferInstance ?hm ?hv ?hn ?ha ?_; (case hm => first | with_reducible assumption | repeat (first | exact .head _ | with_reducible assumption | apply mC)); (case hv => first | with_reducible assumption | (simp only [kC, kD, kE, kF]; try rfl)); (case hn => first | rfl | simp)) | (refine' xAi rfl rfl rfl inferInstance ?hm ?hv ?ha ?_; (case hm => first | with_reducible assumption | repeat (first | exact .head _ | with_reducible assumption | apply mC)); (case hv => first | rfl | with_reducible assumption)) | (refine' xAv rfl rfl rfl inferInstance ?hm ?hv ?hn ?ha ?_; (case hm => first | with_reducible assumption | repeat (first | exact .head _ | with_reducible assumption | apply mC)); (case hv => first | with_reducible assumption | (simp only [kC, kD, kE, kF]; try rfl)); (case hn => first | rfl | simp)) | (refine' xAn rfl rfl rfl inferInstance ?hm ?hv ?ha ?_; (case hm => first | with_reducible assumption | repeat (first | exact .head _ | with_reducible assumption | apply mC)); (case hv => first | rfl | with_reducible assumption)) | ((first | refine' xAe (by decide) rfl rfl rfl rfl (fun w => ?hq) ?ha ?_ | refine' xBb (by decide) rfl rfl rfl rfl (fun w => ?hq) ?ha ?_ | refine' xAp (by decide) rfl rfl rfl (fun w => ?hq) ?ha ?_ | refine' xAd (by decide) rfl rfl rfl (fun w => ?hq) ?ha ?_ | refine' xAq (by decide) rfl rfl rfl (fun w => ?hq) ?ha ?_ | refine' xBa (by decide) rfl rfl rfl rfl (fun w => ?hq) ?ha ?_ | refine' xBf (by decide) rfl rfl rfl rfl rfl rfl (fun w => ?hq) ?ha ?_ | refine' xBd (by decide) rfl rfl (fun w => ?hq) ?ha ?_ | refine' xAw (by decide) rfl rfl rfl (fun w => ?hq) ?ha ?_ | refine' xBe (by decide) rfl rfl rfl (fun w => ?hq) ?ha ?_); (case hq => go_simp; try rfl)) | (refine' xAm (by decide) rfl rfl rfl ?ha ?_) | (refine' xBi (by decide) rfl rfl rfl rfl ?ha ?_) | (refine' xBk (by decide) rfl ?ha ?_) | (refine' xBc rfl rfl rfl (xBh Try.func40 (by kernel_rfl) (by kernel_rfl) _) (fun w => o0 w) ?ha ?_) | (refine' xBc rfl rfl rfl (xBh Try.func36 (by kernel_rfl) (by kernel_rfl) _) (fun w => c1 w) ?ha ?_) | (refine' xCj (by decide) rfl (fun w => ?hq) ?ha ?_; (case hq => simp only [execOp]; go_simp; try rfl); (case ha => simp only [kP, kQ, kA, kB]; try rfl))); try (case ha => simp only [kP, kQ, kA, kB]; try rfl))
    refine xBp (hK _ _ ?_)
    clear hK K
    refine xBo (fun Q hQ => ?_)
    try simp only [List.nil_append, List.cons_append]
    repeat ((first | refine' xAx rfl (.inl rfl) rfl ?hk ?ha ?_ | refine' xAx rfl (.inr rfl) rfl ?hk ?ha ?_ | (refine' xAl rfl rfl rfl inferInstance rfl ?hs rfl rfl ?hn ?hk ?ha ?_; (case hs => repeat (first | exact xAs.head | with_reducible assumption | apply xAs.tail)); (case hn => first | rfl | simp)) | (refine' xAh rfl rfl rfl inferInstance rfl rfl ?hs ?hn ?hl ?hk ?ha ?_; (case hs => repeat (first | exact xAs.head | with_reducible assumption | apply xAs.tail)); (case hn => first | exact oD rfl | (show _ < 4; with_reducible assumption) | (simp; try omega)); (case hl => first | with_reducible assumption | (simp only [nl, kA, kB]; first | done | rfl) | rfl)) | (refine' xAk rfl rfl rfl inferInstance rfl rfl ?hvn ?hs ?hn ?hl ?hk ?ha ?_; (case hvn => first | rfl | simp); (case hs => repeat (first | exact xAs.head | with_reducible assumption | apply xAs.tail)); (case hn => first | exact oD rfl | (show _ < 4; with_reducible assumption) | (simp; try omega)); (case hl => first | with_reducible assumption | (simp only [nl, kA, kB]; first | done | rfl) | rfl)) | (refine' xBj rfl (fun w => ?hq) ?hk ?ha ?_; (case hq => go_simp; try rfl))); (case hk => intro p hp; first | exact absurd hp List.not_mem_nil | (obtain rfl := List.mem_singleton.1 hp; repeat (first | exact List.Mem.head _ | with_reducible assumption | apply mC))); (case ha => simp only [kP, kQ, kA, kB]; try rfl))
    refine xBn (fun w hR => hQ _ _ ?_)
    clear hQ Q
    go_wp2_with (first | (refine' xAb hR rfl rfl rfl ?_; clear hR; intro blk w hR) | (refine' xAa hR rfl rfl inferInstance ?_; clear hR; intro blk w hR) | (refine' aFq hR rfl rfl rfl inferInstance ?_) | (refine' aGq hR rfl rfl rfl inferInstance ?_) | (refine' aHq hR rfl rfl rfl inferInstance ?_) | (refine' aIq hR rfl rfl rfl inferInstance rfl ?_; clear hR; intro w hR) | (refine' aJq hR rfl rfl rfl inferInstance rfl rfl ?_; clear hR; intro w hR) | fail)
    go_ret
  · exact ⟨false, m + 1, rfl, by omega, hno.out _ (by simp) rfl, fun h => (by cases h), hR.drop1⟩
  · exact ⟨false, m + 1, rfl, by omega, hno.out _ (by simp) rfl, fun h => (by cases h), hR.drop1⟩
  · exact ⟨false, m + 1, rfl, by omega, hno.out _ (by simp) rfl, fun h => (by cases h), hR.drop1⟩
  · have hg := hres.out.1 (by simp)
    exact ⟨true, m + 1, rfl, by omega, ⟨fun _ => ⟨hg, by have := hcnt.out hg; omega⟩, fun _ => rfl⟩, fun _ => (hcnt.out hg).symm, hR.drop1⟩
end
end Go.Proofs.Ytdagdfcbnhfdkaa
