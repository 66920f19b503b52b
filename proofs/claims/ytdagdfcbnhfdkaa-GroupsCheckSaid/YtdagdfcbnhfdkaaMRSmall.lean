/- The contracts of balefireref07.Small and many. -/
import Derived.Test.YtdagdfcbnhfdkaaMP
import Derived.Test.YtdagdfcbnhfdkaaMF
import Derived.Test.YtdagdfcbnhfdkaaMRPower
set_option linter.unusedVariables false
set_option linter.unusedSimpArgs false
namespace Go.Proofs.Ytdagdfcbnhfdkaa
open Go.RowKit
attribute [local irreducible] Calls Instr.build Instr.buildSlice
set_option maxRecDepth 100000 in
set_option maxHeartbeats 4000000 in
theorem rsmall_any (n : Nat) (hn : n < 18446744073709551616) (w : World) : Calls Try.prog 134 #[.int .u64 (n : Int)] w fun e w' => e = .returned (.bool (smallB n)) ∧ Below w.heap.size w w' := by
  have hR := Rep.init w
  by_cases h2 : n < 2
  · have g1 : decide ((n : Int) < 2) = true := decide_eq_true (by omega)
    have g1' : (n : Int) < 2 := by omega
    have hres := (smallB_lt n h2).symm
    replace hres := Held.mk hres
    clear h2
    go_enter Try.func134, Try.ntmps134
    go_wp2_with (first | go_skip | (refine' xAb hR rfl rfl rfl ?_; clear hR; intro blk w hR) | (refine' xAa hR rfl rfl inferInstance ?_; clear hR; intro blk w hR) | (refine' aFq hR rfl rfl rfl inferInstance ?_) | (refine' aGq hR rfl rfl rfl inferInstance ?_) | (refine' aHq hR rfl rfl rfl inferInstance ?_) | (refine' aDq hR rfl rfl rfl inferInstance rfl ?_; clear hR; intro w hR) | (refine' aEq hR rfl rfl rfl inferInstance rfl rfl ?_; clear hR; intro w hR) | (refine' xAg hR rfl rfl rfl inferInstance ?hm ?hn ?_; (case hm => first | with_reducible assumption | repeat (first | exact .head _ | with_reducible assumption | apply mC)); (case hn => first | rfl | simp)) | (refine' xAc hR rfl rfl rfl inferInstance ?hm ?hv ?_; (case hm => first | with_reducible assumption | repeat (first | exact .head _ | with_reducible assumption | apply mC)); (case hv => first | rfl | with_reducible assumption)) | (refine' xAz hR rfl rfl rfl inferInstance ?hm ?hv ?hn ?_; (case hm => first | with_reducible assumption | repeat (first | exact .head _ | with_reducible assumption | apply mC)); (case hv => first | with_reducible assumption | (simp only [kC, kD, kE, kF]; try rfl)); (case hn => first | rfl | simp)) | fail)
    go_ret
    exact ⟨ret_bool hres.out, hR.below⟩
  have g1 : decide ((n : Int) < 2) = false := decide_eq_false (by omega)
  have g1' : ¬ (n : Int) < 2 := by omega
  by_cases h3 : n < 4294967296
  case neg =>
    have g2 : decide (4294967296 ≤ (n : Int)) = true := decide_eq_true (by omega)
    have g2' : 4294967296 ≤ (n : Int) := by omega
    have hres := (smallB_ge n h3).symm
    replace hres := Held.mk hres
    clear h2 h3
    go_enter Try.func134, Try.ntmps134
    go_wp2_with (first | go_skip | (refine' xAb hR rfl rfl rfl ?_; clear hR; intro blk w hR) | (refine' xAa hR rfl rfl inferInstance ?_; clear hR; intro blk w hR) | (refine' aFq hR rfl rfl rfl inferInstance ?_) | (refine' aGq hR rfl rfl rfl inferInstance ?_) | (refine' aHq hR rfl rfl rfl inferInstance ?_) | (refine' aDq hR rfl rfl rfl inferInstance rfl ?_; clear hR; intro w hR) | (refine' aEq hR rfl rfl rfl inferInstance rfl rfl ?_; clear hR; intro w hR) | (refine' xAg hR rfl rfl rfl inferInstance ?hm ?hn ?_; (case hm => first | with_reducible assumption | repeat (first | exact .head _ | with_reducible assumption | apply mC)); (case hn => first | rfl | simp)) | (refine' xAc hR rfl rfl rfl inferInstance ?hm ?hv ?_; (case hm => first | with_reducible assumption | repeat (first | exact .head _ | with_reducible assumption | apply mC)); (case hv => first | rfl | with_reducible assumption)) | (refine' xAz hR rfl rfl rfl inferInstance ?hm ?hv ?hn ?_; (case hm => first | with_reducible assumption | repeat (first | exact .head _ | with_reducible assumption | apply mC)); (case hv => first | with_reducible assumption | (simp only [kC, kD, kE, kF]; try rfl)); (case hn => first | rfl | simp)) | fail)
    go_ret
    exact ⟨ret_bool hres.out, hR.below⟩
  have g2 : decide (4294967296 ≤ (n : Int)) = false := decide_eq_false (by omega)
  have g2' : ¬ 4294967296 ≤ (n : Int) := by omega
  go_enter Try.func134, Try.ntmps134
  go_wp2_with (first | go_skip | (refine' xAb hR rfl rfl rfl ?_; clear hR; intro blk w hR) | (refine' xAa hR rfl rfl inferInstance ?_; clear hR; intro blk w hR) | (refine' aFq hR rfl rfl rfl inferInstance ?_) | (refine' aGq hR rfl rfl rfl inferInstance ?_) | (refine' aHq hR rfl rfl rfl inferInstance ?_) | (refine' aDq hR rfl rfl rfl inferInstance rfl ?_; clear hR; intro w hR) | (refine' aEq hR rfl rfl rfl inferInstance rfl rfl ?_; clear hR; intro w hR) | (refine' xAg hR rfl rfl rfl inferInstance ?hm ?hn ?_; (case hm => first | with_reducible assumption | repeat (first | exact .head _ | with_reducible assumption | apply mC)); (case hn => first | rfl | simp)) | (refine' xAc hR rfl rfl rfl inferInstance ?hm ?hv ?_; (case hm => first | with_reducible assumption | repeat (first | exact .head _ | with_reducible assumption | apply mC)); (case hv => first | rfl | with_reducible assumption)) | (refine' xAz hR rfl rfl rfl inferInstance ?hm ?hv ?hn ?_; (case hm => first | with_reducible assumption | repeat (first | exact .head _ | with_reducible assumption | apply mC)); (case hv => first | with_reducible assumption | (simp only [kC, kD, kE, kF]; try rfl)); (case hn => first | rfl | simp)) | fail)
  refine' loop_whileC hR (false :: false :: false :: false :: false :: false :: false :: false :: false :: false :: true :: true :: true :: true :: true :: true :: true :: true :: true :: true :: true :: []) (fun (k : Nat) l => l.set 3 (.int .u64 (k : Int))) (fun k => 65536 - k) (fun k => 2 ≤ k ∧ k ≤ 65536 ∧ noDiv n k) 2 ?h0 ?hO ?hs
  case h0 => exact xBg rfl rfl rfl
  case hO => exact ⟨Nat.le_refl 2, by decide, noDiv_two n⟩
  case hs =>
    clear hR
    intro k tm w hO ht hR K hK
    obtain ⟨hk2, hk, hno⟩ := hO
    obtain ⟨kk, hkk⟩ : ∃ x, k * k = x := ⟨_, rfl⟩
    have hkb : kk ≤ 4294967296 := by
      rw [← hkk]
      exact Nat.mul_le_mul hk hk
    have e1 : IntKind.u64.wrap ((k : Int) * (k : Int)) = (kk : Int) := by
      rw [show (k : Int) * (k : Int) = ((k * k : Nat) : Int) by simp, hkk, IntKind.wrap_u64]; omega
    have hk0 : ¬ (k : Int) = 0 := by omega
    by_cases hle : kk ≤ n
    case neg =>
      have c1 : decide ((kk : Int) ≤ (n : Int)) = false := decide_eq_false (by omega)
      have c1' : ¬ (kk : Int) ≤ (n : Int) := of_decide_eq_false c1
      have hres := (smallB_none n k h2 h3 (by rw [hkk]; omega) hno).symm
      replace hres := Held.mk hres
      clear hle hK h2 h3 hno hkk
      repeat (first | (obtain ⟨x, tm', e, ht'⟩ := xAu ht; clear ht; subst e; have ht := ht'; clear ht') | (obtain ⟨tm', e, ht'⟩ := xAj ht; clear ht; subst e; have ht := ht'; clear ht'))
      obtain rfl := xAy ht
      clear ht
      go_wp2_with (first | go_skip | (refine' xAb hR rfl rfl rfl ?_; clear hR; intro blk w hR) | (refine' xAa hR rfl rfl inferInstance ?_; clear hR; intro blk w hR) | (refine' aFq hR rfl rfl rfl inferInstance ?_) | (refine' aGq hR rfl rfl rfl inferInstance ?_) | (refine' aHq hR rfl rfl rfl inferInstance ?_) | (refine' aDq hR rfl rfl rfl inferInstance rfl ?_; clear hR; intro w hR) | (refine' aEq hR rfl rfl rfl inferInstance rfl rfl ?_; clear hR; intro w hR) | (refine' xAg hR rfl rfl rfl inferInstance ?hm ?hn ?_; (case hm => first | with_reducible assumption | repeat (first | exact .head _ | with_reducible assumption | apply mC)); (case hn => first | rfl | simp)) | (refine' xAc hR rfl rfl rfl inferInstance ?hm ?hv ?_; (case hm => first | with_reducible assumption | repeat (first | exact .head _ | with_reducible assumption | apply mC)); (case hv => first | rfl | with_reducible assumption)) | (refine' xAz hR rfl rfl rfl inferInstance ?hm ?hv ?hn ?_; (case hm => first | with_reducible assumption | repeat (first | exact .head _ | with_reducible assumption | apply mC)); (case hv => first | with_reducible assumption | (simp only [kC, kD, kE, kF]; try rfl)); (case hn => first | rfl | simp)) | fail)
      go_ret
      exact ⟨ret_bool hres.out, hR.below⟩
    have c1 : decide ((kk : Int) ≤ (n : Int)) = true := decide_eq_true (by omega)
    have c1' : (kk : Int) ≤ (n : Int) := oD c1
    obtain ⟨r, hr⟩ : ∃ r, n % k = r := ⟨_, rfl⟩
    have e2 : (n : Int) % (k : Int) = (r : Int) := by rw [← hr]; simp
    have e3 : (n : Int).tmod (k : Int) = (r : Int) := by rw [Int.tmod_eq_emod_of_nonneg (by omega)]; exact e2
    have e4 : IntKind.u64.wrap (r : Int) = (r : Int) := by
      have : r ≤ n := by rw [← hr]; exact Nat.mod_le _ _
      rw [IntKind.wrap_u64]; omega
    by_cases hr0 : r = 0
    · have b1 : ((r : Int) == 0) = true := by rw [beq_iff_eq]; omega
      have hres := (smallB_div n k hk2 (by rw [hkk]; exact hle) (by rw [hr]; exact hr0)).symm
      replace hres := Held.mk hres
      clear hle hK h2 h3 hno hkk hr0 hr
      repeat (first | (obtain ⟨x, tm', e, ht'⟩ := xAu ht; clear ht; subst e; have ht := ht'; clear ht') | (obtain ⟨tm', e, ht'⟩ := xAj ht; clear ht; subst e; have ht := ht'; clear ht'))
      obtain rfl := xAy ht
      clear ht
      go_wp2_with (first | go_skip | (refine' xAb hR rfl rfl rfl ?_; clear hR; intro blk w hR) | (refine' xAa hR rfl rfl inferInstance ?_; clear hR; intro blk w hR) | (refine' aFq hR rfl rfl rfl inferInstance ?_) | (refine' aGq hR rfl rfl rfl inferInstance ?_) | (refine' aHq hR rfl rfl rfl inferInstance ?_) | (refine' aDq hR rfl rfl rfl inferInstance rfl ?_; clear hR; intro w hR) | (refine' aEq hR rfl rfl rfl inferInstance rfl rfl ?_; clear hR; intro w hR) | (refine' xAg hR rfl rfl rfl inferInstance ?hm ?hn ?_; (case hm => first | with_reducible assumption | repeat (first | exact .head _ | with_reducible assumption | apply mC)); (case hn => first | rfl | simp)) | (refine' xAc hR rfl rfl rfl inferInstance ?hm ?hv ?_; (case hm => first | with_reducible assumption | repeat (first | exact .head _ | with_reducible assumption | apply mC)); (case hv => first | rfl | with_reducible assumption)) | (refine' xAz hR rfl rfl rfl inferInstance ?hm ?hv ?hn ?_; (case hm => first | with_reducible assumption | repeat (first | exact .head _ | with_reducible assumption | apply mC)); (case hv => first | with_reducible assumption | (simp only [kC, kD, kE, kF]; try rfl)); (case hn => first | rfl | simp)) | fail)
      go_ret
      exact ⟨ret_bool hres.out, hR.below⟩
    · have b1 : ((r : Int) == 0) = false := by
        cases h : ((r : Int) == 0)
        · rfl
        · rw [beq_iff_eq] at h; omega
      have hlt := sq_le n k h3 (by rw [hkk]; exact hle)
      have hn1 := noDiv_succ n k hno (by rw [hr]; exact hr0)
      have ei : IntKind.u64.wrap ((k : Int) + 1) = (k : Int) + 1 := by rw [IntKind.wrap_u64]; omega
      have ek : ((k + 1 : Nat) : Int) = (k : Int) + 1 := by omega
      have hmu : 65536 - (k + 1) < 65536 - k := by omega
      replace ek := Held.mk ek
      replace hmu := Held.mk hmu
      replace hn1 := Held.mk hn1
      replace hlt := Held.mk hlt
      clear hle h2 h3 hno hkk hr0 hr
      repeat (first | (obtain ⟨x, tm', e, ht'⟩ := xAu ht; clear ht; subst e; have ht := ht'; clear ht') | (obtain ⟨tm', e, ht'⟩ := xAj ht; clear ht; subst e; have ht := ht'; clear ht'))
      obtain rfl := xAy ht
      clear ht
      go_wp2_with (first | go_skip | (refine' xAb hR rfl rfl rfl ?_; clear hR; intro blk w hR) | (refine' xAa hR rfl rfl inferInstance ?_; clear hR; intro blk w hR) | (refine' aFq hR rfl rfl rfl inferInstance ?_) | (refine' aGq hR rfl rfl rfl inferInstance ?_) | (refine' aHq hR rfl rfl rfl inferInstance ?_) | (refine' aDq hR rfl rfl rfl inferInstance rfl ?_; clear hR; intro w hR) | (refine' aEq hR rfl rfl rfl inferInstance rfl rfl ?_; clear hR; intro w hR) | (refine' xAg hR rfl rfl rfl inferInstance ?hm ?hn ?_; (case hm => first | with_reducible assumption | repeat (first | exact .head _ | with_reducible assumption | apply mC)); (case hn => first | rfl | simp)) | (refine' xAc hR rfl rfl rfl inferInstance ?hm ?hv ?_; (case hm => first | with_reducible assumption | repeat (first | exact .head _ | with_reducible assumption | apply mC)); (case hv => first | rfl | with_reducible assumption)) | (refine' xAz hR rfl rfl rfl inferInstance ?hm ?hv ?hn ?_; (case hm => first | with_reducible assumption | repeat (first | exact .head _ | with_reducible assumption | apply mC)); (case hv => first | with_reducible assumption | (simp only [kC, kD, kE, kF]; try rfl)); (case hn => first | rfl | simp)) | fail)
      exact hK.out (k + 1) _ _ ⟨by omega, hlt.out, hn1.out⟩ hmu.out (by simp only [ek.out]; exact xBg rfl rfl rfl) hR
def manyN (s c : Nat) : Nat := min 33 (s + c)
section
variable {B0 : Nat} {w0 : World}
set_option maxRecDepth 100000 in
set_option maxHeartbeats 4000000 in
theorem rmany_any (r : RT) : ∀ {w : World} {L : List (Nat × Obj)} {m t : Nat} {a : Option Addr} {k cap : Nat} (s : Nat), RAt B0 w0 L r (rrow m t (.slice a k cap)) → s ≤ 33 → Rep B0 w0 L w →
    Calls Try.prog 100 #[.slice a k cap, .int .i64 (s : Int)] w fun e w' => e = .returned (.int .i64 (manyN s (cntR r - 1) : Nat)) ∧ Rep B0 w0 L w' := by
  induction r with
  | leaf => intro w L m t a k cap s h; exact h.elim
  | node n tt k p ih =>
    intro w L m t a k' cap s hr hs hR
    obtain ⟨_, _, a', cap', V, hrr, hkc, hcm, hmem, hsub⟩ := hr
    have ha : (Value.slice a k' cap) = .slice a' k cap' := by
      have := congrArg (fun l => l[8]?) hrr
      exact Option.some.inj this
    obtain ⟨rfl, rfl, rfl⟩ : a = a' ∧ k' = k ∧ cap = cap' := by
      injection ha with h1 h2 h3
      exact ⟨h1, h2, h3⟩
    clear hrr ha
    have hcnt : cntR (.node n tt k' p) - 1 = smr (fun i => cntR (p i)) k' := by
      show 1 + smr (fun i => cntR (p i)) k' - 1 = _
      omega
    rw [hcnt]
    obtain ⟨f, hf⟩ : ∃ f : Nat → Nat, f = fun i => cntR (p i) := ⟨_, rfl⟩
    have hfi : ∀ i, cntR (p i) = f i := fun i => by rw [hf]
    have hf1 : ∀ i, 1 ≤ f i := fun i => by rw [← hfi]; exact cntR_pos _
    rw [← hf]
    simp only [hfi] at ih
    replace hmem := Held.mk hmem
    replace hsub := Held.mk hsub
    replace ih := Held.mk ih
    replace hf := Held.mk hf
    clear hcnt hfi
    have m0 : manyN s (smr f 0) = s := by show min 33 (s + 0) = s; omega
    go_enter Try.func100, Try.ntmps100
    go_wp2_with (first | go_skip | (refine' xAb hR rfl rfl rfl ?_; clear hR; intro blk w hR) | (refine' xAa hR rfl rfl inferInstance ?_; clear hR; intro blk w hR) | (refine' aFq hR rfl rfl rfl inferInstance ?_) | (refine' aGq hR rfl rfl rfl inferInstance ?_) | (refine' aHq hR rfl rfl rfl inferInstance ?_) | (refine' aDq hR rfl rfl rfl inferInstance rfl ?_; clear hR; intro w hR) | (refine' aEq hR rfl rfl rfl inferInstance rfl rfl ?_; clear hR; intro w hR) | (refine' xAg hR rfl rfl rfl inferInstance ?hm ?hn ?_; (case hm => first | with_reducible assumption | repeat (first | exact .head _ | with_reducible assumption | apply mC)); (case hn => first | rfl | simp)) | (refine' xAc hR rfl rfl rfl inferInstance ?hm ?hv ?_; (case hm => first | with_reducible assumption | repeat (first | exact .head _ | with_reducible assumption | apply mC)); (case hv => first | rfl | with_reducible assumption)) | (refine' xAz hR rfl rfl rfl inferInstance ?hm ?hv ?hn ?_; (case hm => first | with_reducible assumption | repeat (first | exact .head _ | with_reducible assumption | apply mC)); (case hv => first | with_reducible assumption | (simp only [kC, kD, kE, kF]; try rfl)); (case hn => first | rfl | simp)) | fail)
    refine' loop_whileC hR (false :: false :: false :: false :: false :: false :: true :: true :: true :: true :: true :: true :: true :: true :: true :: true :: true :: true :: true :: true :: true :: true :: true :: true :: false :: []) (fun (i : Nat) l => (l.set 1 (.int .i64 ((manyN s (smr f i) : Nat) : Int))).set 5 (.int .i64 (i : Int))) (fun i => k' - i) (fun i => i ≤ k') 0 ?h0 ?hO ?hs
    case h0 =>
      simp only [m0]
      exact xBg rfl rfl rfl
    case hO => exact Nat.zero_le _
    case hs =>
      clear hR m0
      intro i tm w hi ht hR K hK
      have g0 : 0 ≤ (i : Int) := by omega
      have hmono := smr_mono f i k' hi
      have hst : ∀ c, manyN s c ≤ 33 := fun c => by unfold manyN; omega
      obtain ⟨z, hz0⟩ : ∃ z, manyN s (smr f i) = z := ⟨_, rfl⟩
      rw [hz0] at ht
      have hex : (i = k' ∨ (i < k' ∧ ¬ z ≤ 32)) ∨ (i < k' ∧ z ≤ 32) := by omega
      rcases hex with hex | ⟨hik, hz⟩
      · have hend : manyN s (smr f k') = z := by
          rcases hex with h | ⟨_, h2⟩
          · rw [← h]; exact hz0
          · rw [← hz0] at h2 ⊢
            unfold manyN at h2 ⊢
            omega
        replace hend := Held.mk hend
        have hcase : (decide ((i : Int) < (k' : Int)) = false) ∨ (decide ((i : Int) < (k' : Int)) = true ∧ decide ((z : Int) ≤ 32) = false) := by
          rcases hex with h | ⟨h1, h2⟩
          · exact .inl (decide_eq_false (by omega))
          · exact .inr ⟨decide_eq_true (by omega), decide_eq_false (by omega)⟩
        clear hex hi hz0 hst hmono hK
        rcases hcase with t1 | ⟨t1, t2⟩
        · have t1' : ¬ (i : Int) < (k' : Int) := of_decide_eq_false t1
          repeat (first | (obtain ⟨x, tm', e, ht'⟩ := xAu ht; clear ht; subst e; have ht := ht'; clear ht') | (obtain ⟨tm', e, ht'⟩ := xAj ht; clear ht; subst e; have ht := ht'; clear ht'))
          obtain rfl := xAy ht
          clear ht
          go_wp2_with (first | go_skip | (refine' xAb hR rfl rfl rfl ?_; clear hR; intro blk w hR) | (refine' xAa hR rfl rfl inferInstance ?_; clear hR; intro blk w hR) | (refine' aFq hR rfl rfl rfl inferInstance ?_) | (refine' aGq hR rfl rfl rfl inferInstance ?_) | (refine' aHq hR rfl rfl rfl inferInstance ?_) | (refine' aDq hR rfl rfl rfl inferInstance rfl ?_; clear hR; intro w hR) | (refine' aEq hR rfl rfl rfl inferInstance rfl rfl ?_; clear hR; intro w hR) | (refine' xAg hR rfl rfl rfl inferInstance ?hm ?hn ?_; (case hm => first | with_reducible assumption | repeat (first | exact .head _ | with_reducible assumption | apply mC)); (case hn => first | rfl | simp)) | (refine' xAc hR rfl rfl rfl inferInstance ?hm ?hv ?_; (case hm => first | with_reducible assumption | repeat (first | exact .head _ | with_reducible assumption | apply mC)); (case hv => first | rfl | with_reducible assumption)) | (refine' xAz hR rfl rfl rfl inferInstance ?hm ?hv ?hn ?_; (case hm => first | with_reducible assumption | repeat (first | exact .head _ | with_reducible assumption | apply mC)); (case hv => first | with_reducible assumption | (simp only [kC, kD, kE, kF]; try rfl)); (case hn => first | rfl | simp)) | fail)
          go_ret
          exact ⟨by rw [hend.out]; rfl, hR⟩
        · have t1' : (i : Int) < (k' : Int) := oD t1
          have t2' : ¬ (z : Int) ≤ 32 := of_decide_eq_false t2
          repeat (first | (obtain ⟨x, tm', e, ht'⟩ := xAu ht; clear ht; subst e; have ht := ht'; clear ht') | (obtain ⟨tm', e, ht'⟩ := xAj ht; clear ht; subst e; have ht := ht'; clear ht'))
          obtain rfl := xAy ht
          clear ht
          go_wp2_with (first | go_skip | (refine' xAb hR rfl rfl rfl ?_; clear hR; intro blk w hR) | (refine' xAa hR rfl rfl inferInstance ?_; clear hR; intro blk w hR) | (refine' aFq hR rfl rfl rfl inferInstance ?_) | (refine' aGq hR rfl rfl rfl inferInstance ?_) | (refine' aHq hR rfl rfl rfl inferInstance ?_) | (refine' aDq hR rfl rfl rfl inferInstance rfl ?_; clear hR; intro w hR) | (refine' aEq hR rfl rfl rfl inferInstance rfl rfl ?_; clear hR; intro w hR) | (refine' xAg hR rfl rfl rfl inferInstance ?hm ?hn ?_; (case hm => first | with_reducible assumption | repeat (first | exact .head _ | with_reducible assumption | apply mC)); (case hn => first | rfl | simp)) | (refine' xAc hR rfl rfl rfl inferInstance ?hm ?hv ?_; (case hm => first | with_reducible assumption | repeat (first | exact .head _ | with_reducible assumption | apply mC)); (case hv => first | rfl | with_reducible assumption)) | (refine' xAz hR rfl rfl rfl inferInstance ?hm ?hv ?hn ?_; (case hm => first | with_reducible assumption | repeat (first | exact .head _ | with_reducible assumption | apply mC)); (case hv => first | with_reducible assumption | (simp only [kC, kD, kE, kF]; try rfl)); (case hn => first | rfl | simp)) | fail)
          go_ret
          exact ⟨by rw [hend.out]; rfl, hR⟩
      · have t1' : (i : Int) < (k' : Int) := by omega
        have t1 : decide ((i : Int) < (k' : Int)) = true := decide_eq_true t1'
        have t2' : (z : Int) ≤ 32 := by omega
        have t2 : decide ((z : Int) ≤ 32) = true := decide_eq_true t2'
        obtain ⟨bb, off, rfl, hmr⟩ := hmem.out (by omega)
        have hsi := hsub.out i hik
        obtain ⟨ti, ai, ki, ci, hVi, hiB, htiB⟩ := hsi.row
        have hrl := hmr w hR i hik
        rw [hVi] at hrl hsi
        have hld : (loadVar 25 ⟨bb, off + i * 9 + 8, none⟩).run Try.prog w = .ok (.slice ai ki ci) w := by
          have hc : w.cell? ⟨bb, off + i * 9 + 8, none⟩ = some (.slice ai ki ci) := hrl 8 _ (rr_v _ _ _)
          obtain ⟨d, hu, hd, hi⟩ := (inferInstance : CellT Try.prog 25).is
          have hagg : (isAgg 25).run Try.prog w = .ok false w := by
            unfold isAgg
            rw [Sem.run_bind, run_underlying hu w]
            cases d <;> simp_all
          have hl : (load ⟨bb, off + i * 9 + 8, none⟩).run Try.prog w = .ok (.slice ai ki ci) w := by
            simp only [load, Sem.run, hc]
          unfold loadVar
          rw [Sem.run_bind, hagg]
          simp only [Result.andThen_ok, Bool.false_eq_true, if_false]
          exact hl
        have cm := fun (w : World) (hR : Rep B0 w0 L w) => ih.out i (z + 1) hsi (by omega) hR
        have hnx : manyN (z + 1) (f i - 1) = manyN s (smr f (i + 1)) := by
          have h1 := hf1 i
          have e : smr f (i + 1) = smr f i + f i := rfl
          rw [e, ← hz0]
          rw [← hz0] at hz
          unfold manyN at hz ⊢
          omega
        rw [hnx] at cm
        obtain ⟨zn, hzn⟩ : ∃ z, manyN s (smr f (i + 1)) = z := ⟨_, rfl⟩
        rw [hzn] at cm
        have ez : ((z + 1 : Nat) : Int) = (z : Int) + 1 := by omega
        rw [ez] at cm
        have ew : IntKind.i64.wrap ((z : Int) + 1) = (z : Int) + 1 := by rw [IntKind.wrap_i64]; omega
        have ei : IntKind.i64.wrap ((i : Int) + 1) = (i : Int) + 1 := by rw [IntKind.wrap_i64]; unfold maxLen at hcm; omega
        have ek : ((i + 1 : Nat) : Int) = (i : Int) + 1 := by omega
        have hi1 : i + 1 ≤ k' := by omega
        have hmu : k' - (i + 1) < k' - i := by omega
        replace ek := Held.mk ek
        replace hi1 := Held.mk hi1
        replace hmu := Held.mk hmu
        replace hzn := Held.mk hzn
        clear hsi hmr hi hik hmem hsub ih hkc hcm hrl hVi hmono hst hnx hz0 ez hz hf1
        repeat (first | (obtain ⟨x, tm', e, ht'⟩ := xAu ht; clear ht; subst e; have ht := ht'; clear ht') | (obtain ⟨tm', e, ht'⟩ := xAj ht; clear ht; subst e; have ht := ht'; clear ht'))
        obtain rfl := xAy ht
        clear ht
        go_wp2_with (first | go_skip | (refine' xAb hR rfl rfl rfl ?_; clear hR; intro blk w hR) | (refine' xAa hR rfl rfl inferInstance ?_; clear hR; intro blk w hR) | (refine' aFq hR rfl rfl rfl inferInstance ?_) | (refine' aGq hR rfl rfl rfl inferInstance ?_) | (refine' aHq hR rfl rfl rfl inferInstance ?_) | (refine' aDq hR rfl rfl rfl inferInstance rfl ?_; clear hR; intro w hR) | (refine' aEq hR rfl rfl rfl inferInstance rfl rfl ?_; clear hR; intro w hR) | (refine' xAg hR rfl rfl rfl inferInstance ?hm ?hn ?_; (case hm => first | with_reducible assumption | repeat (first | exact .head _ | with_reducible assumption | apply mC)); (case hn => first | rfl | simp)) | (refine' xAc hR rfl rfl rfl inferInstance ?hm ?hv ?_; (case hm => first | with_reducible assumption | repeat (first | exact .head _ | with_reducible assumption | apply mC)); (case hv => first | rfl | with_reducible assumption)) | (refine' xAz hR rfl rfl rfl inferInstance ?hm ?hv ?hn ?_; (case hm => first | with_reducible assumption | repeat (first | exact .head _ | with_reducible assumption | apply mC)); (case hv => first | with_reducible assumption | (simp only [kC, kD, kE, kF]; try rfl)); (case hn => first | rfl | simp)) | (refine' xBs rfl rfl rfl hld ?_) | (go_at_call 100; refine (cm _ hR).mono ?_; clear hR cm; rintro e w ⟨rfl, hR⟩))
        exact hK.out (i + 1) _ _ hi1.out hmu.out (by simp only [ek.out, hzn.out]; exact xBg rfl rfl rfl) hR
end
end Go.Proofs.Ytdagdfcbnhfdkaa
