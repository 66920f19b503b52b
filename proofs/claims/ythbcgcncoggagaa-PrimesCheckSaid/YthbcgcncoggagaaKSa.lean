/- The sentence of Wilson, for small numbers; the laws' own helpers of layer 7. -/
import Derived.Test.YthbcgcncoggagaaKO
import Derived.Test.YthbcgcncoggagaaKWide
import Derived.Test.YthbcgcncoggagaaKP
import Derived.Test.YthbcgcncoggagaaKF
set_option linter.unusedVariables false
set_option linter.unusedSimpArgs false
namespace Go.Proofs.Ythbcgcncoggagaa
open Go.RowKit
attribute [local irreducible] Calls
attribute [local irreducible] Instr.build
end Go.Proofs.Ythbcgcncoggagaa
namespace Go.Proofs.Ythbcgcncoggagaa
open Go.RowKit
attribute [local irreducible] Calls Instr.build Instr.buildSlice
theorem good_node (n t k : Nat) (p : Nat → RT) : goodR (.node n t k p) ↔ ((n < 4294967296 ∧ IsSmall n ∧ t = 0 ∧ k = 0) ∨ (4294967296 ≤ n ∧ n < B ∧ (∀ i, i < k → goodR (p i) ∧ (i = 0 ∨ (p (i - 1)).num < (p i).num) ∧ mostN (p i).num (n - 1) ≠ 1) ∧
      n < facB (fun i => mostN (p i).num (n - 1)) k * facB (fun i => mostN (p i).num (n - 1)) k ∧ witR n t k fun i => (p i).num)) := by
  conv => lhs; unfold goodR
theorem good_small {n t k : Nat} {p : Nat → RT} (hn : n < 4294967296) : goodR (.node n t k p) ↔ IsSmall n ∧ t = 0 ∧ k = 0 := by
  rw [good_node]
  constructor
  · rintro (⟨_, h⟩ | ⟨h, _⟩)
    · exact h
    · omega
  · exact fun h => .inl ⟨hn, h⟩
theorem good_big {n t k : Nat} {p : Nat → RT} (hn : 4294967296 ≤ n) (hB : n < B) : goodR (.node n t k p) ↔ (∀ i, i < k → goodR (p i) ∧ (i = 0 ∨ (p (i - 1)).num < (p i).num) ∧ mostN (p i).num (n - 1) ≠ 1) ∧
      n < facB (fun i => mostN (p i).num (n - 1)) k * facB (fun i => mostN (p i).num (n - 1)) k ∧ witR n t k fun i => (p i).num := by
  rw [good_node]
  constructor
  · rintro (⟨h, _⟩ | ⟨_, _, h⟩)
    · omega
    · exact h
  · exact fun h => .inr ⟨hn, hB, h⟩
noncomputable def lastN : (Nat → RT) → Nat → Nat := opq fun p i => if i = 0 then 0 else (p (i - 1)).num
theorem lastN_zero (p : Nat → RT) : lastN p 0 = 0 := by unfold lastN; rw [xCb]; rfl
theorem lastN_succ (p : Nat → RT) (i : Nat) : lastN p (i + 1) = (p i).num := by unfold lastN; rw [xCb]; rfl
theorem lastN_good {p : Nat → RT} {i : Nat} (hp : goodR (p i)) : (i = 0 ∨ (p (i - 1)).num < (p i).num) ↔ lastN p i < (p i).num := by
  unfold lastN
  rw [xCb]
  by_cases h : i = 0
  · simp only [h, if_pos, true_or, true_iff]
    subst h
    have := (good_pr _ hp).1
    omega
  · simp [h]
noncomputable abbrev holdsV (bm bh : Nat) : Value := .func (.func 75) #[] #[.pointer (some ⟨bm, 0, none⟩), .pointer (some ⟨bh, 0, none⟩)]
structure Own7 (B0 : Nat) (w0 : World) (bm bh : Nat) (L0 : List (Nat × Obj)) (Lf : Nat → List (Nat × Obj)) : Prop where
  sub : ∀ m w, Rep B0 w0 (Lf m) w → Rep B0 w0 L0 w
  set : ∀ m m' : Nat, xAh (Lf m) bm (.cells [Value.int .i64 (m : Int)].toArray 3) (.cells [Value.int .i64 (m' : Int)].toArray 3) (Lf m')
  fn : ∀ m, (bh, Obj.cells [holdsV bm bh].toArray 56) ∈ Lf m
theorem Own7.mem {B0 : Nat} {w0 : World} {bm bh : Nat} {L0 : List (Nat × Obj)} {Lf : Nat → List (Nat × Obj)} (h : Own7 B0 w0 bm bh L0 Lf) (m : Nat) : (bm, Obj.cells [Value.int .i64 (m : Int)].toArray 3) ∈ Lf m := (h.set m m).spec.1
theorem Own7.cons {B0 : Nat} {w0 : World} {bm bh : Nat} {L0 : List (Nat × Obj)} {Lf : Nat → List (Nat × Obj)} (h : Own7 B0 w0 bm bh L0 Lf) (p : Nat × Obj) : Own7 B0 w0 bm bh L0 fun m => p :: Lf m :=
  ⟨fun m w hw => h.sub m w hw.drop1, fun m m' => xAh.tail (h.set m m'), fun m => .tail _ (h.fn m)⟩
def HoldsOut (B0 : Nat) (w0 : World) (Lf : Nat → List (Nat × Obj)) (r : RT) (m : Nat) (e : Ending) (w' : World) : Prop :=
  ∃ b : Bool, ∃ m' : Nat, e = .returned (.bool b) ∧ m' ≤ 33 ∧ (b = true ↔ goodR r ∧ m + cntR r ≤ 32) ∧ (b = true → m' = m + cntR r) ∧ Rep B0 w0 (Lf m') w'
section
variable {B0 : Nat} {w0 : World}
set_option maxRecDepth 100000 in
set_option maxHeartbeats 8000000 in
theorem holds_low (bm bh : Nat) (n t k : Nat) (p : Nat → RT) {w : World} {l : List Value} {m : Nat} {L0 : List (Nat × Obj)} {Lf : Nat → List (Nat × Obj)} (hl : RAt B0 w0 L0 (.node n t k p) l) (ho : Own7 B0 w0 bm bh L0 Lf) (hm : m ≤ 32) (hlow : m = 32 ∨ n < 4294967296) (hR : Rep B0 w0 (Lf m) w) :
    Calls Try.prog 75 #[.agg l.toArray, .pointer (some ⟨bm, 0, none⟩), .pointer (some ⟨bh, 0, none⟩)] w fun e w' => HoldsOut B0 w0 Lf (.node n t k p) m e w' := by
  obtain ⟨hB, htB, a, cap, V, rfl, _, _, _, _⟩ := hl
  have hs := ho.set m (m + 1)
  have hm1 := ho.mem (m + 1)
  have em : ((m + 1 : Nat) : Int) = (m : Int) + 1 := by omega
  rw [em] at hs hm1
  have f1 : IntKind.i64.wrap ((m : Int) + 1) = (m : Int) + 1 := by rw [IntKind.wrap_i64]; omega
  have hm0 := ho.mem m
  have tn := rr_n n t (.slice a k cap)
  have tt := rr_t n t (.slice a k cap)
  have ta := rr_v n t (.slice a k cap)
  have tw := rr_w n t (.slice a k cap)
  have hc := cntR_pos (.node n t k p)
  have hck := cntR_len n t k p
  by_cases h32 : m = 32
  · have g1 : (32 : Int) < (m : Int) + 1 := by omega
    have g1' : decide ((32 : Int) < (m : Int) + 1) = true := decide_eq_true g1
    have hfin : ¬ (goodR (.node n t k p) ∧ m + cntR (.node n t k p) ≤ 32) := fun h => by have := h.2; omega
    replace hfin := Held.mk hfin
    clear hlow hc hck h32
    go_enter Try.func75, Try.ntmps75
    go_wp2_with (first | (refine' xAg hR rfl rfl rfl ?_; clear hR; intro blk w hR) | (refine' xAb hR rfl rfl inferInstance ?_; clear hR; intro blk w hR) | (refine' xAf hR rfl rfl rfl inferInstance ?hm ?hn ?_; (case hm => first | with_reducible assumption | repeat (first | exact .head _ | with_reducible assumption | apply mC)); (case hn => first | rfl | simp)) | (refine' xAe hR rfl rfl rfl inferInstance ?hm ?hv ?hn ?_; (case hm => first | with_reducible assumption | repeat (first | exact .head _ | with_reducible assumption | apply mC)); (case hv => first | with_reducible assumption | (simp only [kC, kD, kE, kF]; try rfl)); (case hn => first | rfl | simp)) | (refine' xAc hR rfl rfl rfl inferInstance ?hm ?hv ?_; (case hm => first | with_reducible assumption | repeat (first | exact .head _ | with_reducible assumption | apply mC)); (case hv => first | rfl | with_reducible assumption)) | (refine' xAd hR rfl rfl rfl inferInstance rfl ?hs ?zone ?zvn ?hn ?_; (case hs => repeat (first | exact xAh.head | with_reducible assumption | apply xAh.tail)); (case zone => first | rfl | with_reducible assumption); (case zvn => first | rfl | simp); (case hn => first | rfl | simp); clear hR; intro w hR) | (refine' xAa hR rfl rfl rfl inferInstance rfl rfl ?hs ?hn ?hl ?_; (case hs => repeat (first | exact xAh.head | with_reducible assumption | apply xAh.tail)); (case hn => first | exact oD rfl | (show _ < 4; with_reducible assumption) | (simp; try omega)); (case hl => first | with_reducible assumption | (simp only [nl, kA, kB]; first | done | rfl) | rfl); clear hR; intro w hR) | fail)
    go_ret
    exact ⟨false, m + 1, rfl, by omega, ⟨fun h => (by cases h), fun h => absurd h hfin.out⟩, fun h => (by cases h), hR.drop1⟩
  have g1 : (m : Int) + 1 ≤ (32 : Int) := by omega
  have g1' : decide ((32 : Int) < (m : Int) + 1) = false := decide_eq_false (by omega)
  have g1'' : ¬ (32 : Int) < (m : Int) + 1 := by omega
  have hn : n < 4294967296 := by omega
  have cb := fun w => bits_any n hB w
  have hl : (blen n : Int) ≤ 32 := by
    have := (xBs n 32).mpr (by omega)
    omega
  have en : wd n 0 = (n : Int) := by rw [wd_eq]; unfold w64; omega
  obtain ⟨n0, hn0⟩ : ∃ n, n = 0 := ⟨_, rfl⟩
  have o0 : ∀ w, Calls Try.prog 57 #[.int .u64 0] w fun e w' => e = .returned (num n0) ∧ Below w.heap.size w w' := fun w => by
    rw [hn0]; exact of_any 0 (by decide) w
  have L0' : n0 < B := lt_B (by omega)
  have c1 := fun w => small_lit n _ (by omega) rfl w
  rw [← en] at c1
  have hgs := good_small (t := t) (k := k) (p := p) hn
  have hsm : smallB n = true ↔ IsSmall n := ⟨fun h => Classical.byContradiction fun hn => (by rw [smallB_no hn] at h; cases h), smallB_yes⟩
  have hk0 : k = 0 → cntR (.node n t k p) = 1 := fun h => by subst h; rfl
  obtain ⟨q, hq⟩ : ∃ q : Bool, ((k : Int) == 0) = q := ⟨_, rfl⟩
  have hq0 : q = true ↔ k = 0 := by rw [← hq, beq_iff_eq]; omega
  obtain ⟨s, hs'⟩ : ∃ s, smallB n = s := ⟨_, rfl⟩
  obtain ⟨z, hz⟩ : ∃ z, eqN t n0 = z := ⟨_, rfl⟩
  have hz0 : z = true ↔ t = 0 := by
    rw [← hz]
    by_cases h : t = n0
    · rw [eqN_yes h]; exact ⟨fun _ => by omega, fun _ => rfl⟩
    · rw [eqN_no htB L0' h]; exact ⟨fun h => (by cases h), fun h' => absurd (h'.trans hn0.symm) h⟩
  rw [hs'] at hsm c1
  have hres : (s = true ∧ z = true ∧ q = true) ↔ goodR (.node n t k p) := by rw [hgs, hsm, hz0, hq0]
  have hcnt : goodR (.node n t k p) → m + cntR (.node n t k p) = m + 1 := fun h => by rw [hk0 (hgs.1 h).2.2]
  replace hres := Held.mk hres
  replace hcnt := Held.mk hcnt
  clear hgs hsm hk0 hq0 hz0 hs' hlow hc hck h32 en hn0 hn
  generalize (blen n : Int) = bl at *
  have hcase : s = false ∨ (s = true ∧ z = false) ∨ (s = true ∧ z = true ∧ q = false) ∨ (s = true ∧ z = true ∧ q = true) := by
    cases s <;> cases z <;> cases q <;> simp
  have hno : ∀ b' : Bool, ¬ (s = true ∧ z = true ∧ q = true) → b' = false → (b' = true ↔ goodR (.node n t k p) ∧ m + cntR (.node n t k p) ≤ 32) := fun b' h1 h2 => by
    rw [h2]
    exact ⟨fun h => (by cases h), fun h => absurd (hres.out.2 h.1) h1⟩
  replace hno := Held.mk hno
  rcases hcase with rfl | ⟨rfl, rfl⟩ | ⟨rfl, rfl, rfl⟩ | ⟨rfl, rfl, rfl⟩
  all_goals
    go_enter Try.func75, Try.ntmps75
    go_wp2_with (first | (refine' xAg hR rfl rfl rfl ?_; clear hR; intro blk w hR) | (refine' xAb hR rfl rfl inferInstance ?_; clear hR; intro blk w hR) | (refine' xAf hR rfl rfl rfl inferInstance ?hm ?hn ?_; (case hm => first | with_reducible assumption | repeat (first | exact .head _ | with_reducible assumption | apply mC)); (case hn => first | rfl | simp)) | (refine' xAe hR rfl rfl rfl inferInstance ?hm ?hv ?hn ?_; (case hm => first | with_reducible assumption | repeat (first | exact .head _ | with_reducible assumption | apply mC)); (case hv => first | with_reducible assumption | (simp only [kC, kD, kE, kF]; try rfl)); (case hn => first | rfl | simp)) | (refine' xAc hR rfl rfl rfl inferInstance ?hm ?hv ?_; (case hm => first | with_reducible assumption | repeat (first | exact .head _ | with_reducible assumption | apply mC)); (case hv => first | rfl | with_reducible assumption)) | (refine' xAd hR rfl rfl rfl inferInstance rfl ?hs ?zone ?zvn ?hn ?_; (case hs => repeat (first | exact xAh.head | with_reducible assumption | apply xAh.tail)); (case zone => first | rfl | with_reducible assumption); (case zvn => first | rfl | simp); (case hn => first | rfl | simp); clear hR; intro w hR) | (refine' xAa hR rfl rfl rfl inferInstance rfl rfl ?hs ?hn ?hl ?_; (case hs => repeat (first | exact xAh.head | with_reducible assumption | apply xAh.tail)); (case hn => first | exact oD rfl | (show _ < 4; with_reducible assumption) | (simp; try omega)); (case hl => first | with_reducible assumption | (simp only [nl, kA, kB]; first | done | rfl) | rfl); clear hR; intro w hR) | (go_at_call 34; refine (cb _).mono ?_; rintro e w ⟨rfl, hb⟩; replace hR := hR.call hb; clear hb))
    refine xAl hR [0, 0, 0, 0, 0, 0, 0, 0, 0, 0, 0, 0, 0, 0, 0, 0, 2] [] xCe (by kernel_rfl) rfl rfl (fun K hK => ?_)
    clear hR
    repeat ((first | (refine xBp ?_) | (refine' xAx (by decide) rfl (.inl rfl) rfl ?ha ?_) | (refine' xAx (by decide) rfl (.inr rfl) rfl ?ha ?_) | (refine' xAv rfl rfl rfl inferInstance ?hm ?hn ?ha ?_; (case hm => first | with_reducible assumption | repeat (first | exact .head _ | with_reducible assumption | apply mC)); (case hn => first | rfl | simp)) | (refine' xAs rfl rfl rfl inferInstance ?hm ?hv ?hn ?ha ?_; (case hm => first | with_reducible assumption | repeat (first | exact .head _ | with_reducible assumption | apply mC)); (case hv => first | with_reducible assumption | (simp only [kC, kD, kE, kF]; try rfl)); (case hn => first | rfl | simp)) | (refine' xAo rfl rfl rfl inferInstance ?hm ?hv ?ha ?_; (case hm => first | with_reducible assumption | repeat (first | exact .head _ | with_reducible assumption | apply mC)); (case hv => first | rfl | with_reducible assumption)) | (refine' xAr rfl rfl rfl inferInstance ?hm ?hv ?hn ?ha ?_; (case hm => first | with_reducible assumption | repeat (first | exact .head _ | with_reducible assumption | apply mC)); (case hv => first | with_reducible assumption | (simp only [kC, kD, kE, kF]; try rfl)); (case hn => first | rfl | simp)) | (refine' xAq rfl rfl rfl inferInstance ?hm ?hv ?ha ?_; (case hm => first | with_reducible assumption | repeat (first | exact .head _ | with_reducible assumption | apply mC)); (case hv => first | rfl | with_reducible assumption)) | ((first | refine' xAk (by decide) rfl rfl rfl rfl (fun w => ?hq) ?ha ?_ | refine' xBh (by decide) rfl rfl rfl rfl (fun w => ?hq) ?ha ?_ | refine' xAu (by decide) rfl rfl rfl (fun w => ?hq) ?ha ?_ | refine' xAj (by decide) rfl rfl rfl (fun w => ?hq) ?ha ?_ | refine' xAw (by decide) rfl rfl rfl (fun w => ?hq) ?ha ?_ | refine' xBg (by decide) rfl rfl rfl rfl (fun w => ?hq) ?ha ?_ | refine' xBe (by decide) rfl rfl rfl rfl rfl rfl (fun w => ?hq) ?ha ?_ | refine' xBd (by decide) rfl rfl (fun w => ?hq) ?ha ?_ | refine' xAt (by decide) rfl rfl rfl (fun w => ?hq) ?ha ?_ | refine' xBf (by decide) rfl rfl rfl (fun w => ?hq) ?ha ?_); (case hq => go_simp; try rfl)) | (refine' xAn (by decide) rfl rfl rfl ?ha ?_) | (refine' xBo (by decide) rfl rfl rfl rfl ?ha ?_) | (refine' xBn (by decide) rfl ?ha ?_) | (refine' xBb rfl rfl rfl (xBj Try.func57 (by kernel_rfl) (by kernel_rfl) _) (fun w => o0 w) ?ha ?_) | (refine' xBb rfl rfl rfl (xBj Try.func35 (by kernel_rfl) (by kernel_rfl) _) (fun w => c1 w) ?ha ?_) | (refine' xCc (by decide) rfl (fun w => ?hq) ?ha ?_; (case hq => simp only [execOp]; go_simp; try rfl); (case ha => simp only [kP, kQ, kA, kB]; try rfl))); try (case ha => simp only [kP, kQ, kA, kB]; try rfl))
    refine xBt (hK _ _ ?_)
    clear hK K
    refine xBv (fun Q hQ => ?_)
    try simp only [List.nil_append, List.cons_append]
    repeat ((first | refine' xAy rfl (.inl rfl) rfl ?hk ?ha ?_ | refine' xAy rfl (.inr rfl) rfl ?hk ?ha ?_ | (refine' xAp rfl rfl rfl inferInstance rfl ?hs rfl rfl ?hn ?hk ?ha ?_; (case hs => repeat (first | exact xAh.head | with_reducible assumption | apply xAh.tail)); (case hn => first | rfl | simp)) | (refine' xAi rfl rfl rfl inferInstance rfl rfl ?hs ?hn ?hl ?hk ?ha ?_; (case hs => repeat (first | exact xAh.head | with_reducible assumption | apply xAh.tail)); (case hn => first | exact oD rfl | (show _ < 4; with_reducible assumption) | (simp; try omega)); (case hl => first | with_reducible assumption | (simp only [nl, kA, kB]; first | done | rfl) | rfl)) | (refine' xAm rfl rfl rfl inferInstance rfl rfl ?hvn ?hs ?hn ?hl ?hk ?ha ?_; (case hvn => first | rfl | simp); (case hs => repeat (first | exact xAh.head | with_reducible assumption | apply xAh.tail)); (case hn => first | exact oD rfl | (show _ < 4; with_reducible assumption) | (simp; try omega)); (case hl => first | with_reducible assumption | (simp only [nl, kA, kB]; first | done | rfl) | rfl)) | (refine' xBl rfl (fun w => ?hq) ?hk ?ha ?_; (case hq => go_simp; try rfl))); (case hk => intro p hp; first | exact absurd hp List.not_mem_nil | (obtain rfl := List.mem_singleton.1 hp; repeat (first | exact List.Mem.head _ | with_reducible assumption | apply mC))); (case ha => simp only [kP, kQ, kA, kB]; try rfl))
    refine xBu (fun w hR => hQ _ _ ?_)
    clear hQ Q
    go_wp2_with (first | (refine' xAg hR rfl rfl rfl ?_; clear hR; intro blk w hR) | (refine' xAb hR rfl rfl inferInstance ?_; clear hR; intro blk w hR) | (refine' xAf hR rfl rfl rfl inferInstance ?hm ?hn ?_; (case hm => first | with_reducible assumption | repeat (first | exact .head _ | with_reducible assumption | apply mC)); (case hn => first | rfl | simp)) | (refine' xAe hR rfl rfl rfl inferInstance ?hm ?hv ?hn ?_; (case hm => first | with_reducible assumption | repeat (first | exact .head _ | with_reducible assumption | apply mC)); (case hv => first | with_reducible assumption | (simp only [kC, kD, kE, kF]; try rfl)); (case hn => first | rfl | simp)) | (refine' xAc hR rfl rfl rfl inferInstance ?hm ?hv ?_; (case hm => first | with_reducible assumption | repeat (first | exact .head _ | with_reducible assumption | apply mC)); (case hv => first | rfl | with_reducible assumption)) | (refine' xAd hR rfl rfl rfl inferInstance rfl ?hs ?zone ?zvn ?hn ?_; (case hs => repeat (first | exact xAh.head | with_reducible assumption | apply xAh.tail)); (case zone => first | rfl | with_reducible assumption); (case zvn => first | rfl | simp); (case hn => first | rfl | simp); clear hR; intro w hR) | (refine' xAa hR rfl rfl rfl inferInstance rfl rfl ?hs ?hn ?hl ?_; (case hs => repeat (first | exact xAh.head | with_reducible assumption | apply xAh.tail)); (case hn => first | exact oD rfl | (show _ < 4; with_reducible assumption) | (simp; try omega)); (case hl => first | with_reducible assumption | (simp only [nl, kA, kB]; first | done | rfl) | rfl); clear hR; intro w hR) | fail)
    go_ret
  · exact ⟨false, m + 1, rfl, by omega, hno.out _ (by simp) rfl, fun h => (by cases h), hR.drop1⟩
  · exact ⟨false, m + 1, rfl, by omega, hno.out _ (by simp) rfl, fun h => (by cases h), hR.drop1⟩
  · exact ⟨false, m + 1, rfl, by omega, hno.out _ (by simp) rfl, fun h => (by cases h), hR.drop1⟩
  · have hg := hres.out.1 (by simp)
    exact ⟨true, m + 1, rfl, by omega, ⟨fun _ => ⟨hg, by have := hcnt.out hg; omega⟩, fun _ => rfl⟩, fun _ => (hcnt.out hg).symm, hR.drop1⟩
end
end Go.Proofs.Ythbcgcncoggagaa
namespace Go.Proofs.Ythbcgcncoggagaa
open Go.RowKit
attribute [local irreducible] Calls Instr.build Instr.buildSlice
noncomputable def rsl (f : Nat → Int) (k : Nat) : Nat → Int
  | 0 => (k : Int)
  | i + 1 => if rsl f k i ≤ 1048576 then wrap64 (rsl f k i + f i) else rsl f k i
theorem rsl_stop (f : Nat → Int) (k : Nat) {i : Nat} (h : ¬ rsl f k i ≤ 1048576) : ∀ j, rsl f k (i + j) = rsl f k i
  | 0 => rfl
  | j + 1 => by
    show (if rsl f k (i + j) ≤ 1048576 then wrap64 (rsl f k (i + j) + f (i + j)) else rsl f k (i + j)) = _
    rw [rsl_stop f k h j, if_neg h]
noncomputable def rszN : RT → Int
  | .leaf => 0
  | .node _ _ k p => wrap64 (1 + rsl (fun i => rszN (p i)) k k)
def SizeOut (B0 : Nat) (w0 : World) (L : List (Nat × Obj)) (x : Int) (e : Ending) (w' : World) : Prop := e = .returned (.int .i64 x) ∧ Rep B0 w0 L w'
section
variable {B0 : Nat} {w0 : World}
set_option maxRecDepth 100000 in
set_option maxHeartbeats 4000000 in
theorem rsizes_go (n t k : Nat) (p : Nat → RT) (a : Option Addr) (cap : Nat) {L : List (Nat × Obj)} {w : World} (hr : RAt B0 w0 L (.node n t k p) (rrow n t (.slice a k cap)))
    (ih : ∀ i, i < k → ∀ {w : World} {l : List Value} {L : List (Nat × Obj)}, RAt B0 w0 L (p i) l → Rep B0 w0 L w → Calls Try.prog 26 #[.agg l.toArray] w fun e w' => SizeOut B0 w0 L (rszN (p i)) e w') (hR : Rep B0 w0 L w) :
    Calls Try.prog 73 #[.slice a k cap] w fun e w' => SizeOut B0 w0 L (rsl (fun i => rszN (p i)) k k) e w' := by
  obtain ⟨_, _, a', cap', V, hrr, hkc, hcm, hmem, hsub⟩ := hr
  have ha : (Value.slice a k cap) = .slice a' k cap' := by
    have := congrArg (fun l => l[8]?) hrr
    exact Option.some.inj this
  obtain ⟨rfl, rfl⟩ : a = a' ∧ cap = cap' := by
    injection ha with h1 h2 h3
    exact ⟨h1, h3⟩
  clear hrr ha
  replace hmem := Held.mk hmem
  replace hsub := Held.mk hsub
  replace ih := Held.mk ih
  obtain ⟨f, hf⟩ : ∃ f, f = fun i => rszN (p i) := ⟨_, rfl⟩
  have hfi : ∀ i, rszN (p i) = f i := fun i => by rw [hf]
  simp only [hfi] at ih
  rw [← hf]
  replace hf := Held.mk hf
  clear hfi
  go_enter Try.func73, Try.ntmps73
  go_wp2_with (first | (refine' xAg hR rfl rfl rfl ?_; clear hR; intro blk w hR) | (refine' xAb hR rfl rfl inferInstance ?_; clear hR; intro blk w hR) | (refine' xAf hR rfl rfl rfl inferInstance ?hm ?hn ?_; (case hm => first | with_reducible assumption | repeat (first | exact .head _ | with_reducible assumption | apply mC)); (case hn => first | rfl | simp)) | (refine' xAe hR rfl rfl rfl inferInstance ?hm ?hv ?hn ?_; (case hm => first | with_reducible assumption | repeat (first | exact .head _ | with_reducible assumption | apply mC)); (case hv => first | with_reducible assumption | (simp only [kC, kD, kE, kF]; try rfl)); (case hn => first | rfl | simp)) | (refine' xAc hR rfl rfl rfl inferInstance ?hm ?hv ?_; (case hm => first | with_reducible assumption | repeat (first | exact .head _ | with_reducible assumption | apply mC)); (case hv => first | rfl | with_reducible assumption)) | (refine' xAd hR rfl rfl rfl inferInstance rfl ?hs ?zone ?zvn ?hn ?_; (case hs => repeat (first | exact xAh.head | apply xAh.tail)); (case zone => first | rfl | with_reducible assumption); (case zvn => first | rfl | simp); (case hn => first | rfl | simp); clear hR; intro w hR) | (refine' xAa hR rfl rfl rfl inferInstance rfl rfl ?hs ?hn ?hl ?_; (case hs => repeat (first | exact xAh.head | apply xAh.tail)); (case hn => first | exact oD rfl | (show _ < 4; with_reducible assumption) | (simp; try omega)); (case hl => first | with_reducible assumption | (simp only [nl, kA, kB]; first | done | rfl) | rfl); clear hR; intro w hR) | fail)
  refine' loop_whileC hR (false :: false :: false :: false :: false :: false :: false :: true :: true :: true :: true :: true :: true :: true :: true :: true :: true :: true :: true :: true :: true :: true :: true :: true :: false :: []) (fun (x : Nat) l => (l.set 3 (.int .i64 (rsl f k x))).set 4 (.int .i64 (x : Int))) (fun x => k - x) (fun x => x ≤ k) 0 ?h0 ?hO ?hs
  case h0 => exact xBq rfl rfl rfl
  case hO => exact Nat.zero_le _
  case hs =>
    clear hR
    intro i tm w hO ht hR K hK
    have hst := fun h => rsl_stop f k (i := i) h (k - i)
    have hnx : rsl f k (i + 1) = if rsl f k i ≤ 1048576 then wrap64 (rsl f k i + f i) else rsl f k i := rfl
    rw [show i + (k - i) = k by omega] at hst
    obtain ⟨z, hz0⟩ : ∃ z, rsl f k i = z := ⟨_, rfl⟩
    rw [hz0] at ht hst hnx
    have g0 : 0 ≤ (i : Int) := by omega
    have hex : (i = k ∨ (i < k ∧ ¬ z ≤ 1048576)) ∨ (i < k ∧ z ≤ 1048576) := by omega
    rcases hex with hex | ⟨hik, hz⟩
    · clear hK
      have hend : rsl f k k = z := by
        rcases hex with h | ⟨_, h2⟩
        · rw [← h] at hz0 ⊢; exact hz0
        · exact hst h2
      replace hend := Held.mk hend
      have hcase : (decide ((i : Int) < (k : Int)) = false) ∨ (decide ((i : Int) < (k : Int)) = true ∧ decide (z ≤ 1048576) = false) := by
        rcases hex with h | ⟨h1, h2⟩
        · exact .inl (decide_eq_false (by omega))
        · exact .inr ⟨decide_eq_true (by omega), decide_eq_false h2⟩
      clear hex hO hst hnx hz0
      rcases hcase with t1 | ⟨t1, t2⟩
      · have t1' : ¬ (i : Int) < (k : Int) := of_decide_eq_false t1
        repeat (first | (obtain ⟨x, tm', e, ht'⟩ := xBk ht; clear ht; subst e; have ht := ht'; clear ht') | (obtain ⟨tm', e, ht'⟩ := xBc ht; clear ht; subst e; have ht := ht'; clear ht'))
        obtain rfl := xBm ht
        clear ht
        go_wp2_with (first | (refine' xAg hR rfl rfl rfl ?_; clear hR; intro blk w hR) | (refine' xAb hR rfl rfl inferInstance ?_; clear hR; intro blk w hR) | (refine' xAf hR rfl rfl rfl inferInstance ?hm ?hn ?_; (case hm => first | with_reducible assumption | repeat (first | exact .head _ | with_reducible assumption | apply mC)); (case hn => first | rfl | simp)) | (refine' xAe hR rfl rfl rfl inferInstance ?hm ?hv ?hn ?_; (case hm => first | with_reducible assumption | repeat (first | exact .head _ | with_reducible assumption | apply mC)); (case hv => first | with_reducible assumption | (simp only [kC, kD, kE, kF]; try rfl)); (case hn => first | rfl | simp)) | (refine' xAc hR rfl rfl rfl inferInstance ?hm ?hv ?_; (case hm => first | with_reducible assumption | repeat (first | exact .head _ | with_reducible assumption | apply mC)); (case hv => first | rfl | with_reducible assumption)) | (refine' xAd hR rfl rfl rfl inferInstance rfl ?hs ?zone ?zvn ?hn ?_; (case hs => repeat (first | exact xAh.head | apply xAh.tail)); (case zone => first | rfl | with_reducible assumption); (case zvn => first | rfl | simp); (case hn => first | rfl | simp); clear hR; intro w hR) | (refine' xAa hR rfl rfl rfl inferInstance rfl rfl ?hs ?hn ?hl ?_; (case hs => repeat (first | exact xAh.head | apply xAh.tail)); (case hn => first | exact oD rfl | (show _ < 4; with_reducible assumption) | (simp; try omega)); (case hl => first | with_reducible assumption | (simp only [nl, kA, kB]; first | done | rfl) | rfl); clear hR; intro w hR) | (refine' xBa hR rfl rfl rfl inferInstance ?hm ?hn ?_; (case hm => first | with_reducible assumption | repeat (first | exact .head _ | with_reducible assumption | apply mC)); (case hn => first | rfl | simp)) | (refine' xAz hR rfl rfl rfl inferInstance ?hm ?hv ?_; (case hm => first | with_reducible assumption | repeat (first | exact .head _ | with_reducible assumption | apply mC)); (case hv => first | rfl | with_reducible assumption)) | fail)
        go_ret
        exact ⟨by rw [hend.out]; rfl, hR⟩
      · have t1' : (i : Int) < (k : Int) := oD t1
        have t2' : ¬ z ≤ 1048576 := of_decide_eq_false t2
        repeat (first | (obtain ⟨x, tm', e, ht'⟩ := xBk ht; clear ht; subst e; have ht := ht'; clear ht') | (obtain ⟨tm', e, ht'⟩ := xBc ht; clear ht; subst e; have ht := ht'; clear ht'))
        obtain rfl := xBm ht
        clear ht
        go_wp2_with (first | (refine' xAg hR rfl rfl rfl ?_; clear hR; intro blk w hR) | (refine' xAb hR rfl rfl inferInstance ?_; clear hR; intro blk w hR) | (refine' xAf hR rfl rfl rfl inferInstance ?hm ?hn ?_; (case hm => first | with_reducible assumption | repeat (first | exact .head _ | with_reducible assumption | apply mC)); (case hn => first | rfl | simp)) | (refine' xAe hR rfl rfl rfl inferInstance ?hm ?hv ?hn ?_; (case hm => first | with_reducible assumption | repeat (first | exact .head _ | with_reducible assumption | apply mC)); (case hv => first | with_reducible assumption | (simp only [kC, kD, kE, kF]; try rfl)); (case hn => first | rfl | simp)) | (refine' xAc hR rfl rfl rfl inferInstance ?hm ?hv ?_; (case hm => first | with_reducible assumption | repeat (first | exact .head _ | with_reducible assumption | apply mC)); (case hv => first | rfl | with_reducible assumption)) | (refine' xAd hR rfl rfl rfl inferInstance rfl ?hs ?zone ?zvn ?hn ?_; (case hs => repeat (first | exact xAh.head | apply xAh.tail)); (case zone => first | rfl | with_reducible assumption); (case zvn => first | rfl | simp); (case hn => first | rfl | simp); clear hR; intro w hR) | (refine' xAa hR rfl rfl rfl inferInstance rfl rfl ?hs ?hn ?hl ?_; (case hs => repeat (first | exact xAh.head | apply xAh.tail)); (case hn => first | exact oD rfl | (show _ < 4; with_reducible assumption) | (simp; try omega)); (case hl => first | with_reducible assumption | (simp only [nl, kA, kB]; first | done | rfl) | rfl); clear hR; intro w hR) | (refine' xBa hR rfl rfl rfl inferInstance ?hm ?hn ?_; (case hm => first | with_reducible assumption | repeat (first | exact .head _ | with_reducible assumption | apply mC)); (case hn => first | rfl | simp)) | (refine' xAz hR rfl rfl rfl inferInstance ?hm ?hv ?_; (case hm => first | with_reducible assumption | repeat (first | exact .head _ | with_reducible assumption | apply mC)); (case hv => first | rfl | with_reducible assumption)) | fail)
        go_ret
        exact ⟨by rw [hend.out]; rfl, hR⟩
    · have g1 : (i : Int) < (k : Int) := by omega
      have t1 : decide ((i : Int) < (k : Int)) = true := decide_eq_true g1
      have t2 : decide (z ≤ 1048576) = true := decide_eq_true hz
      obtain ⟨bb, off, rfl, hmr⟩ := hmem.out (by omega)
      have hsi := hsub.out i hik
      have hld := reason_load (hmr w hR i hik) hsi.len
      have ci := fun (w : World) (hR : Rep B0 w0 L w) => ih.out i hik hsi hR
      generalize V i = vi at *
      have ei : IntKind.i64.wrap ((i : Int) + 1) = (i : Int) + 1 := by rw [IntKind.wrap_i64]; unfold maxLen at hcm; omega
      have ek : ((i + 1 : Nat) : Int) = (i : Int) + 1 := by omega
      replace ek := Held.mk ek
      have hi1 : i + 1 ≤ k := by omega
      rw [if_pos hz] at hnx
      replace hnx := Held.mk hnx
      obtain ⟨fx, hfx⟩ : ∃ y, f i = y := ⟨_, rfl⟩
      rw [hfx] at ci hnx
      clear hfx hst hz0
      have hmu : k - (i + 1) < k - i := by omega
      replace hi1 := Held.mk hi1
      replace hmu := Held.mk hmu
      clear hsi hmr hO hik hmem hsub ih hkc hcm
      repeat (first | (obtain ⟨x, tm', e, ht'⟩ := xBk ht; clear ht; subst e; have ht := ht'; clear ht') | (obtain ⟨tm', e, ht'⟩ := xBc ht; clear ht; subst e; have ht := ht'; clear ht'))
      obtain rfl := xBm ht
      clear ht
      go_wp2_with (first | (refine' xAg hR rfl rfl rfl ?_; clear hR; intro blk w hR) | (refine' xAb hR rfl rfl inferInstance ?_; clear hR; intro blk w hR) | (refine' xAf hR rfl rfl rfl inferInstance ?hm ?hn ?_; (case hm => first | with_reducible assumption | repeat (first | exact .head _ | with_reducible assumption | apply mC)); (case hn => first | rfl | simp)) | (refine' xAe hR rfl rfl rfl inferInstance ?hm ?hv ?hn ?_; (case hm => first | with_reducible assumption | repeat (first | exact .head _ | with_reducible assumption | apply mC)); (case hv => first | with_reducible assumption | (simp only [kC, kD, kE, kF]; try rfl)); (case hn => first | rfl | simp)) | (refine' xAc hR rfl rfl rfl inferInstance ?hm ?hv ?_; (case hm => first | with_reducible assumption | repeat (first | exact .head _ | with_reducible assumption | apply mC)); (case hv => first | rfl | with_reducible assumption)) | (refine' xAd hR rfl rfl rfl inferInstance rfl ?hs ?zone ?zvn ?hn ?_; (case hs => repeat (first | exact xAh.head | apply xAh.tail)); (case zone => first | rfl | with_reducible assumption); (case zvn => first | rfl | simp); (case hn => first | rfl | simp); clear hR; intro w hR) | (refine' xAa hR rfl rfl rfl inferInstance rfl rfl ?hs ?hn ?hl ?_; (case hs => repeat (first | exact xAh.head | apply xAh.tail)); (case hn => first | exact oD rfl | (show _ < 4; with_reducible assumption) | (simp; try omega)); (case hl => first | with_reducible assumption | (simp only [nl, kA, kB]; first | done | rfl) | rfl); clear hR; intro w hR) | (refine' xBa hR rfl rfl rfl inferInstance ?hm ?hn ?_; (case hm => first | with_reducible assumption | repeat (first | exact .head _ | with_reducible assumption | apply mC)); (case hn => first | rfl | simp)) | (refine' xAz hR rfl rfl rfl inferInstance ?hm ?hv ?_; (case hm => first | with_reducible assumption | repeat (first | exact .head _ | with_reducible assumption | apply mC)); (case hv => first | rfl | with_reducible assumption)) | (refine' xCa rfl rfl rfl hld ?_) | (go_at_call 26; refine (ci _ hR).mono ?_; clear hR ci; rintro e w ⟨rfl, hR⟩))
      exact hK.out (i + 1) _ _ hi1.out hmu.out (by simp only [ek.out, hnx.out]; exact xBq rfl rfl rfl) hR
set_option maxRecDepth 100000 in
set_option maxHeartbeats 4000000 in
theorem rsize_any (r : RT) : ∀ {w : World} {l : List Value} {L : List (Nat × Obj)}, RAt B0 w0 L r l → Rep B0 w0 L w → Calls Try.prog 26 #[.agg l.toArray] w fun e w' => SizeOut B0 w0 L (rszN r) e w' := by
  induction r with
  | leaf => intro w l L h; exact h.elim
  | node n t k p ih =>
    intro w l L hr hR
    obtain ⟨t', a, k', cap, hl, _, _⟩ := hr.row
    obtain ⟨h1, h2, a', cap', V, hrr, hkc, hcm, hmem, hsub⟩ := hr
    have hr : RAt B0 w0 L (.node n t k p) (rrow n t (.slice a' k cap')) := ⟨h1, h2, a', cap', V, rfl, hkc, hcm, hmem, hsub⟩
    clear hl h1 h2 hmem hsub
    subst hrr
    have cr := fun (p0 : Nat × Obj) (w : World) (hR : Rep B0 w0 (p0 :: L) w) => rsizes_go n t k p a' cap' (hr.mono fun w hw => hw.drop1) (fun i _ => ih i) hR
    have tv := rr_v n t (.slice a' k cap')
    obtain ⟨z, hz⟩ : ∃ z, rsl (fun i => rszN (p i)) k k = z := ⟨_, rfl⟩
    have hres : rszN (.node n t k p) = wrap64 (1 + z) := by rw [← hz]; rfl
    rw [hz] at cr
    replace hres := Held.mk hres
    clear hr ih hz
    go_enter Try.func26, Try.ntmps26
    go_wp2_with (first | (refine' xAg hR rfl rfl rfl ?_; clear hR; intro blk w hR) | (refine' xAb hR rfl rfl inferInstance ?_; clear hR; intro blk w hR) | (refine' xAf hR rfl rfl rfl inferInstance ?hm ?hn ?_; (case hm => first | with_reducible assumption | repeat (first | exact .head _ | with_reducible assumption | apply mC)); (case hn => first | rfl | simp)) | (refine' xAe hR rfl rfl rfl inferInstance ?hm ?hv ?hn ?_; (case hm => first | with_reducible assumption | repeat (first | exact .head _ | with_reducible assumption | apply mC)); (case hv => first | with_reducible assumption | (simp only [kC, kD, kE, kF]; try rfl)); (case hn => first | rfl | simp)) | (refine' xAc hR rfl rfl rfl inferInstance ?hm ?hv ?_; (case hm => first | with_reducible assumption | repeat (first | exact .head _ | with_reducible assumption | apply mC)); (case hv => first | rfl | with_reducible assumption)) | (refine' xAd hR rfl rfl rfl inferInstance rfl ?hs ?zone ?zvn ?hn ?_; (case hs => repeat (first | exact xAh.head | apply xAh.tail)); (case zone => first | rfl | with_reducible assumption); (case zvn => first | rfl | simp); (case hn => first | rfl | simp); clear hR; intro w hR) | (refine' xAa hR rfl rfl rfl inferInstance rfl rfl ?hs ?hn ?hl ?_; (case hs => repeat (first | exact xAh.head | apply xAh.tail)); (case hn => first | exact oD rfl | (show _ < 4; with_reducible assumption) | (simp; try omega)); (case hl => first | with_reducible assumption | (simp only [nl, kA, kB]; first | done | rfl) | rfl); clear hR; intro w hR) | (refine' xBa hR rfl rfl rfl inferInstance ?hm ?hn ?_; (case hm => first | with_reducible assumption | repeat (first | exact .head _ | with_reducible assumption | apply mC)); (case hn => first | rfl | simp)) | (refine' xAz hR rfl rfl rfl inferInstance ?hm ?hv ?_; (case hm => first | with_reducible assumption | repeat (first | exact .head _ | with_reducible assumption | apply mC)); (case hv => first | rfl | with_reducible assumption)) | (go_at_call 73; refine (cr _ _ hR).mono ?_; clear hR cr; rintro e w ⟨rfl, hR⟩))
    go_ret
    exact ⟨by rw [hres.out]; rfl, hR.drop1⟩
end
end Go.Proofs.Ythbcgcncoggagaa
