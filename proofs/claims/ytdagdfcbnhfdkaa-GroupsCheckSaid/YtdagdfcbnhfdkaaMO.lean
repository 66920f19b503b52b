/- The contract of primes.most. -/
import Derived.Test.YtdagdfcbnhfdkaaMN
import Derived.Test.YtdagdfcbnhfdkaaMA
import Derived.Test.YtdagdfcbnhfdkaaMF
import Derived.Maps.AppendAt
import Derived.Laws.MakeOwn
set_option linter.unusedVariables false
set_option linter.unusedSimpArgs false
namespace Go.Proofs.Ytdagdfcbnhfdkaa
open Go.RowKit
attribute [local irreducible] Calls
theorem xCk {α : Type} {P : Program} {c : Code} {Q : Exit → Act → World → Prop} {l : List Value} {d : List Deferred} {w w0 : World} {B0 : Nat} (mask : List Bool) (upd : α → List Value → List Value) (L : α → List (Nat × Obj)) (μ : α → Nat) (Ok : α → Prop) (x0 : α)
    (h0 : agree mask (upd x0 l) l) (hO : Ok x0) (hR : Rep B0 w0 (L x0) w)
    (hs : ∀ x tm w, Ok x → agree mask (upd x l) tm → Rep B0 w0 (L x) w → ∀ K : Act → World → Prop, Held (∀ y tm' w', Ok y → μ y < μ x → agree mask (upd y l) tm' → Rep B0 w0 (L y) w' → K ⟨tm'.toArray, d⟩ w') → c.wp P (Exit.then K Q) ⟨tm.toArray, d⟩ w) : (Code.loop c).wp P Q ⟨l.toArray, d⟩ w := by
  have key : ∀ n x, μ x ≤ n → Ok x → ∀ tm w, agree mask (upd x l) tm → Rep B0 w0 (L x) w → Code.rounds P c Q (n + 1) ⟨tm.toArray, d⟩ w := by
    intro n
    induction n with
    | zero => intro x hx hO tm w h1 h2; exact hs x tm w hO h1 h2 _ ⟨fun y tm' w' _ hy _ _ => by omega⟩
    | succ n ih =>
      intro x hx hO tm w h1 h2
      exact hs x tm w hO h1 h2 _ ⟨fun y tm' w' hO' hy h1' h2' => ih y (by omega) hO' tm' w' h1' h2'⟩
  exact wp_loop_rounds (μ x0 + 1) (key (μ x0) x0 (Nat.le_refl _) hO l w h0 hR)
set_option maxRecDepth 100000 in
set_option maxHeartbeats 4000000 in
theorem most_any (q M : Nat) (hq : q < B) (hM : M < B) (h2 : 2 ≤ q) (h0 : 0 < M) (w : World) : Calls Try.prog 43 #[num q, num M] w fun e w' => e = .returned (num (mostN q M)) ∧ Below w.heap.size w w' := by
  obtain ⟨n0, hn0⟩ : ∃ n, n = 0 := ⟨_, rfl⟩
  obtain ⟨n1, hn1⟩ : ∃ n, n = 1 := ⟨_, rfl⟩
  have o0 : ∀ w, Calls Try.prog 40 #[.int .u64 0] w fun e w' => e = .returned (num n0) ∧ Below w.heap.size w w' := fun w => by
    rw [hn0]; exact of_any 0 (by decide) w
  have o1 : ∀ w, Calls Try.prog 40 #[.int .u64 1] w fun e w' => e = .returned (num n1) ∧ Below w.heap.size w w' := fun w => by
    rw [hn1]; exact of_any 1 (by decide) w
  have L0 : n0 < B := lt_B (by omega)
  have e1 : q ^ 0 = n1 := by rw [hn1, Nat.pow_zero]
  have e2 : M / n1 = M := by rw [hn1, Nat.div_one]
  replace hn1 := Held.mk hn1
  have hR := Rep.init w
  obtain ⟨W, hW⟩ : ∃ x, x = w := ⟨_, rfl⟩
  subst hW
  go_enter Try.func43, Try.ntmps43
  go_wp2_with (first | (refine' xAb hR rfl rfl rfl ?_; clear hR; intro blk w hR) | (refine' xAa hR rfl rfl inferInstance ?_; clear hR; intro blk w hR) | (refine' aFq hR rfl rfl rfl inferInstance ?_) | (refine' aGq hR rfl rfl rfl inferInstance ?_) | (refine' aHq hR rfl rfl rfl inferInstance ?_) | (refine' aDq hR rfl rfl rfl inferInstance rfl ?_; clear hR; intro w hR) | (refine' aEq hR rfl rfl rfl inferInstance rfl rfl ?_; clear hR; intro w hR) | (go_at_call 40; refine (o1 _).mono ?_; rintro e w ⟨rfl, hb⟩; replace hR := hR.call hb; clear hb))
  rename_i b2 u2 b3 u3 b4 u4 b5 u5
  obtain ⟨b5, hb5⟩ : ∃ x, x = blk := ⟨_, rfl⟩
  subst hb5
  simp only [Act.put, kA, kB, List.setIfInBounds_toArray]
  refine' xCk (B0 := W.heap.size) (w0 := W) (false :: false :: false :: false :: false :: false :: true :: true :: true :: false :: true :: true :: true :: true :: true :: true :: true :: true :: true :: true :: true :: true :: true :: true :: true :: true :: true :: true :: []) (fun (e : Nat) l => l) (fun e => (b5, .cells (nl (q ^ e)).toArray 24) :: (b4, .cells [Value.int .u64 0, Value.int .u64 0, Value.int .u64 0, Value.int .u64 0].toArray 24) :: (b3, .cells (nl (M / q ^ e)).toArray 24) :: (b2, .cells (nl q).toArray 24) :: []) (fun e => M / q ^ e) (fun e => q ^ e ∣ M) 0 ?h0 ?hO ?hR ?hs
  case h0 => exact xBg rfl rfl rfl
  case hO => show q ^ 0 ∣ M; rw [Nat.pow_zero]; exact Nat.one_dvd M
  case hR => simp only [e1, e2]; exact hR
  case hs =>
    clear hR e1 e2 hn1 o1
    intro e tm w hO ht hR K hK
    have hle : q ^ e ≤ M := Nat.le_of_dvd h0 hO
    have hpos : 0 < q ^ e := Nat.pow_pos (by omega)
    have hMe : q ^ e * (M / q ^ e) = M := Nat.mul_div_cancel' hO
    have hk1 : M / q ^ (e + 1) = M / q ^ e / q := by rw [Nat.pow_succ, Nat.div_div_eq_div_mul]
    have hk0 : 0 < M / q ^ e := Nat.div_pos hle hpos
    have hkB : M / q ^ e < B := Nat.lt_of_le_of_lt (Nat.div_le_self _ _) hM
    have hdv : q ^ (e + 1) ∣ M ↔ M / q ^ e % q = 0 := by
      rw [Nat.pow_succ]
      constructor
      · intro h
        obtain ⟨c, hc⟩ := h
        rw [hc, Nat.mul_assoc, Nat.mul_div_cancel_left _ hpos]
        exact Nat.mul_mod_right q c
      · intro h
        have := Nat.mul_dvd_mul (Nat.dvd_refl (q ^ e)) (Nat.dvd_of_mod_eq_zero h)
        rwa [hMe] at this
    have hmost : ¬ q ^ (e + 1) ∣ M → mostN q M = q ^ e := fun h => mostN_is ⟨e, rfl, hO, h⟩
    have hqe1 : q ^ (e + 1) = q ^ e * q := Nat.pow_succ q e
    obtain ⟨a, ha⟩ : ∃ a, M / q ^ e = a := ⟨_, rfl⟩
    obtain ⟨o, ho⟩ : ∃ a, q ^ e = a := ⟨_, rfl⟩
    have ha' : M / o = a := by rw [← ho, ha]
    have hlt : ∀ x, x < a → x < M / q ^ e := fun x h => by rw [ha]; exact h
    simp only [ho, ha'] at hR hk1 hk0 hkB hdv hmost hqe1
    clear ha'
    have ho' : o ≤ M := by rw [← ho]; exact hle
    obtain ⟨k, hk⟩ : ∃ k, a / q = k := ⟨_, rfl⟩
    obtain ⟨r, hr⟩ : ∃ r, a % q = r := ⟨_, rfl⟩
    have hq0 : q ≠ 0 := by omega
    have d1 := d_lit (e := 0) hkB hq (show quo0 a q = k by rw [xCn, hk]) (show rem0 a q = r by rw [rem0_pos hq0, hr]) (if_neg hq0)
    have rB : r < B := by rw [← hr]; exact Nat.lt_trans (Nat.mod_lt _ (by omega)) hq
    by_cases h : r = 0
    · have eb : eqN r n0 = true := xBw (by omega)
      have hd := hdv.2 (by rw [hr]; exact h)
      have hoq : o * q ≤ M := by rw [← hqe1]; exact Nat.le_of_dvd h0 hd
      have m1 := m_lit (l := o * q) (h := 0) (show o < B by omega) hq (Nat.mod_eq_of_lt (by omega)) (Nat.div_eq_of_lt (by omega))
      have hka : k < a := by rw [← hk]; exact Nat.div_lt_self hk0 (by omega)
      obtain ⟨o2, ho2⟩ : ∃ x, o * q = x := ⟨_, rfl⟩
      rw [ho2] at m1 hqe1
      rw [hk, hqe1] at hk1
      replace hd := Held.mk hd
      replace hqe1 := Held.mk hqe1
      replace hk1 := Held.mk hk1
      have hmu := hlt k hka
      replace hmu := Held.mk hmu
      clear hlt hka hoq hmost hdv hle hpos hMe hO h ho' ha ho hk hr hk0 hkB rB ho2
      clear hn0
      repeat (first | (obtain ⟨x, tm', e, ht'⟩ := xAu ht; clear ht; subst e; have ht := ht'; clear ht') | (obtain ⟨tm', e, ht'⟩ := xAj ht; clear ht; subst e; have ht := ht'; clear ht'))
      obtain rfl := xAy ht
      clear ht
      go_wp2_with (first | (refine' xAb hR rfl rfl rfl ?_; clear hR; intro blk w hR) | (refine' xAa hR rfl rfl inferInstance ?_; clear hR; intro blk w hR) | (refine' aFq hR rfl rfl rfl inferInstance ?_) | (refine' aGq hR rfl rfl rfl inferInstance ?_) | (refine' aHq hR rfl rfl rfl inferInstance ?_) | (refine' aDq hR rfl rfl rfl inferInstance rfl ?_; clear hR; intro w hR) | (refine' aEq hR rfl rfl rfl inferInstance rfl rfl ?_; clear hR; intro w hR) | (go_at_call 84; refine (d1 _).mono ?_; rintro e w ⟨rfl, hb⟩; replace hR := hR.call hb; clear hb))
      refine xAf hR [0, 0, 0] [] xBx (by kernel_rfl) rfl rfl (fun K hK => ?_)
      clear hR
      repeat ((first | (refine xBl ?_) | (refine' xAt (by decide) rfl (.inl rfl) rfl ?ha ?_) | (refine' xAt (by decide) rfl (.inr rfl) rfl ?ha ?_) | (refine' xAr rfl rfl rfl inferInstance ?hm ?hn ?ha ?_; (case hm => first | with_reducible assumption | repeat (first | exact .head _ | with_reducible assumption | apply mC)); (case hn => first | rfl | simp)) | (refine' xAo rfl rfl rfl inferInstance ?hm ?hv ?hn ?ha ?_; (case hm => first | with_reducible assumption | repeat (first | exact .head _ | with_reducible assumption | apply mC)); (case hv => first | with_reducible assumption | (simp only [kC, kD, kE, kF]; try rfl)); (case hn => first | rfl | simp)) | (refine' xAi rfl rfl rfl inferInstance ?hm ?hv ?ha ?_; (case hm => first | with_reducible assumption | repeat (first | exact .head _ | with_reducible assumption | apply mC)); (case hv => first | rfl | with_reducible assumption)) | (refine' xAv rfl rfl rfl inferInstance ?hm ?hv ?hn ?ha ?_; (case hm => first | with_reducible assumption | repeat (first | exact .head _ | with_reducible assumption | apply mC)); (case hv => first | with_reducible assumption | (simp only [kC, kD, kE, kF]; try rfl)); (case hn => first | rfl | simp)) | (refine' xAn rfl rfl rfl inferInstance ?hm ?hv ?ha ?_; (case hm => first | with_reducible assumption | repeat (first | exact .head _ | with_reducible assumption | apply mC)); (case hv => first | rfl | with_reducible assumption)) | ((first | refine' xAe (by decide) rfl rfl rfl rfl (fun w => ?hq) ?ha ?_ | refine' xBb (by decide) rfl rfl rfl rfl (fun w => ?hq) ?ha ?_ | refine' xAp (by decide) rfl rfl rfl (fun w => ?hq) ?ha ?_ | refine' xAd (by decide) rfl rfl rfl (fun w => ?hq) ?ha ?_ | refine' xAq (by decide) rfl rfl rfl (fun w => ?hq) ?ha ?_ | refine' xBa (by decide) rfl rfl rfl rfl (fun w => ?hq) ?ha ?_ | refine' xBf (by decide) rfl rfl rfl rfl rfl rfl (fun w => ?hq) ?ha ?_ | refine' xBd (by decide) rfl rfl (fun w => ?hq) ?ha ?_ | refine' xAw (by decide) rfl rfl rfl (fun w => ?hq) ?ha ?_ | refine' xBe (by decide) rfl rfl rfl (fun w => ?hq) ?ha ?_); (case hq => go_simp; try rfl)) | (refine' xAm (by decide) rfl rfl rfl ?ha ?_) | (refine' xBi (by decide) rfl rfl rfl rfl ?ha ?_) | (refine' xBk (by decide) rfl ?ha ?_) | (refine' xBc rfl rfl rfl (xBh Try.func40 (by kernel_rfl) (by kernel_rfl) _) (fun w => o0 w) ?ha ?_)); try (case ha => simp only [kP, kQ, kA, kB]; try rfl))
      refine xBp (hK _ _ ?_)
      clear hK K
      refine xBo (fun Q hQ => ?_)
      try simp only [List.nil_append, List.cons_append]
      repeat ((first | refine' xAx rfl (.inl rfl) rfl ?hk ?ha ?_ | refine' xAx rfl (.inr rfl) rfl ?hk ?ha ?_ | (refine' xAl rfl rfl rfl inferInstance rfl ?hs rfl rfl ?hn ?hk ?ha ?_; (case hs => repeat (first | exact xAs.head | apply xAs.tail)); (case hn => first | rfl | simp)) | (refine' xAh rfl rfl rfl inferInstance rfl rfl ?hs ?hn ?hl ?hk ?ha ?_; (case hs => repeat (first | exact xAs.head | apply xAs.tail)); (case hn => first | exact oD rfl | (show _ < 4; with_reducible assumption) | (simp; try omega)); (case hl => first | with_reducible assumption | (simp only [nl, kA, kB]; first | done | rfl) | rfl)) | (refine' xAk rfl rfl rfl inferInstance rfl rfl ?hvn ?hs ?hn ?hl ?hk ?ha ?_; (case hvn => first | rfl | simp); (case hs => repeat (first | exact xAs.head | apply xAs.tail)); (case hn => first | exact oD rfl | (show _ < 4; with_reducible assumption) | (simp; try omega)); (case hl => first | with_reducible assumption | (simp only [nl, kA, kB]; first | done | rfl) | rfl)) | (refine' xBj rfl (fun w => ?hq) ?hk ?ha ?_; (case hq => go_simp; try rfl))); (case hk => intro p hp; first | exact absurd hp List.not_mem_nil | (obtain rfl := List.mem_singleton.1 hp; repeat (first | exact List.Mem.head _ | with_reducible assumption | apply mC))); (case ha => simp only [kP, kQ, kA, kB]; try rfl))
      refine xBn (fun w hR => hQ _ _ ?_)
      clear hQ Q
      go_wp2_with (first | (refine' xAb hR rfl rfl rfl ?_; clear hR; intro blk w hR) | (refine' xAa hR rfl rfl inferInstance ?_; clear hR; intro blk w hR) | (refine' aFq hR rfl rfl rfl inferInstance ?_) | (refine' aGq hR rfl rfl rfl inferInstance ?_) | (refine' aHq hR rfl rfl rfl inferInstance ?_) | (refine' aDq hR rfl rfl rfl inferInstance rfl ?_; clear hR; intro w hR) | (refine' aEq hR rfl rfl rfl inferInstance rfl rfl ?_; clear hR; intro w hR) | (go_at_call 44; refine (m1 _).mono ?_; rintro e w ⟨rfl, hb⟩; replace hR := hR.call hb; clear hb))
      refine hK.out (e + 1) _ _ hd.out ?_ (by exact xBg rfl rfl rfl) ?_
      · show M / q ^ (e + 1) < M / q ^ e
        rw [hqe1.out, hk1.out]; exact hmu.out
      · simp only [hqe1.out, hk1.out]
        exact hR.weaken ((List.sublist_cons_self _ _).trans (List.sublist_cons_self _ _))
    · have eb : eqN r n0 = false := xBz rB L0 (by omega)
      have hres := hmost (fun hd => h (by rw [← hr]; exact hdv.1 hd))
      clear hlt hmost hdv hle hpos hMe hO h ho' ha ho hk hr hk0 hkB rB hqe1 hk1 hK
      replace hres := Held.mk hres
      clear hn0
      repeat (first | (obtain ⟨x, tm', e, ht'⟩ := xAu ht; clear ht; subst e; have ht := ht'; clear ht') | (obtain ⟨tm', e, ht'⟩ := xAj ht; clear ht; subst e; have ht := ht'; clear ht'))
      obtain rfl := xAy ht
      clear ht
      go_wp2_with (first | (refine' xAb hR rfl rfl rfl ?_; clear hR; intro blk w hR) | (refine' xAa hR rfl rfl inferInstance ?_; clear hR; intro blk w hR) | (refine' aFq hR rfl rfl rfl inferInstance ?_) | (refine' aGq hR rfl rfl rfl inferInstance ?_) | (refine' aHq hR rfl rfl rfl inferInstance ?_) | (refine' aDq hR rfl rfl rfl inferInstance rfl ?_; clear hR; intro w hR) | (refine' aEq hR rfl rfl rfl inferInstance rfl rfl ?_; clear hR; intro w hR) | (go_at_call 84; refine (d1 _).mono ?_; rintro e w ⟨rfl, hb⟩; replace hR := hR.call hb; clear hb))
      refine xAf hR [0, 0, 0] [] xBx (by kernel_rfl) rfl rfl (fun K hK => ?_)
      clear hR
      repeat ((first | (refine xBl ?_) | (refine' xAt (by decide) rfl (.inl rfl) rfl ?ha ?_) | (refine' xAt (by decide) rfl (.inr rfl) rfl ?ha ?_) | (refine' xAr rfl rfl rfl inferInstance ?hm ?hn ?ha ?_; (case hm => first | with_reducible assumption | repeat (first | exact .head _ | with_reducible assumption | apply mC)); (case hn => first | rfl | simp)) | (refine' xAo rfl rfl rfl inferInstance ?hm ?hv ?hn ?ha ?_; (case hm => first | with_reducible assumption | repeat (first | exact .head _ | with_reducible assumption | apply mC)); (case hv => first | with_reducible assumption | (simp only [kC, kD, kE, kF]; try rfl)); (case hn => first | rfl | simp)) | (refine' xAi rfl rfl rfl inferInstance ?hm ?hv ?ha ?_; (case hm => first | with_reducible assumption | repeat (first | exact .head _ | with_reducible assumption | apply mC)); (case hv => first | rfl | with_reducible assumption)) | (refine' xAv rfl rfl rfl inferInstance ?hm ?hv ?hn ?ha ?_; (case hm => first | with_reducible assumption | repeat (first | exact .head _ | with_reducible assumption | apply mC)); (case hv => first | with_reducible assumption | (simp only [kC, kD, kE, kF]; try rfl)); (case hn => first | rfl | simp)) | (refine' xAn rfl rfl rfl inferInstance ?hm ?hv ?ha ?_; (case hm => first | with_reducible assumption | repeat (first | exact .head _ | with_reducible assumption | apply mC)); (case hv => first | rfl | with_reducible assumption)) | ((first | refine' xAe (by decide) rfl rfl rfl rfl (fun w => ?hq) ?ha ?_ | refine' xBb (by decide) rfl rfl rfl rfl (fun w => ?hq) ?ha ?_ | refine' xAp (by decide) rfl rfl rfl (fun w => ?hq) ?ha ?_ | refine' xAd (by decide) rfl rfl rfl (fun w => ?hq) ?ha ?_ | refine' xAq (by decide) rfl rfl rfl (fun w => ?hq) ?ha ?_ | refine' xBa (by decide) rfl rfl rfl rfl (fun w => ?hq) ?ha ?_ | refine' xBf (by decide) rfl rfl rfl rfl rfl rfl (fun w => ?hq) ?ha ?_ | refine' xBd (by decide) rfl rfl (fun w => ?hq) ?ha ?_ | refine' xAw (by decide) rfl rfl rfl (fun w => ?hq) ?ha ?_ | refine' xBe (by decide) rfl rfl rfl (fun w => ?hq) ?ha ?_); (case hq => go_simp; try rfl)) | (refine' xAm (by decide) rfl rfl rfl ?ha ?_) | (refine' xBi (by decide) rfl rfl rfl rfl ?ha ?_) | (refine' xBk (by decide) rfl ?ha ?_) | (refine' xBc rfl rfl rfl (xBh Try.func40 (by kernel_rfl) (by kernel_rfl) _) (fun w => o0 w) ?ha ?_)); try (case ha => simp only [kP, kQ, kA, kB]; try rfl))
      refine xBp (hK _ _ ?_)
      clear hK K
      refine xBo (fun Q hQ => ?_)
      try simp only [List.nil_append, List.cons_append]
      repeat ((first | refine' xAx rfl (.inl rfl) rfl ?hk ?ha ?_ | refine' xAx rfl (.inr rfl) rfl ?hk ?ha ?_ | (refine' xAl rfl rfl rfl inferInstance rfl ?hs rfl rfl ?hn ?hk ?ha ?_; (case hs => repeat (first | exact xAs.head | apply xAs.tail)); (case hn => first | rfl | simp)) | (refine' xAh rfl rfl rfl inferInstance rfl rfl ?hs ?hn ?hl ?hk ?ha ?_; (case hs => repeat (first | exact xAs.head | apply xAs.tail)); (case hn => first | exact oD rfl | (show _ < 4; with_reducible assumption) | (simp; try omega)); (case hl => first | with_reducible assumption | (simp only [nl, kA, kB]; first | done | rfl) | rfl)) | (refine' xAk rfl rfl rfl inferInstance rfl rfl ?hvn ?hs ?hn ?hl ?hk ?ha ?_; (case hvn => first | rfl | simp); (case hs => repeat (first | exact xAs.head | apply xAs.tail)); (case hn => first | exact oD rfl | (show _ < 4; with_reducible assumption) | (simp; try omega)); (case hl => first | with_reducible assumption | (simp only [nl, kA, kB]; first | done | rfl) | rfl)) | (refine' xBj rfl (fun w => ?hq) ?hk ?ha ?_; (case hq => go_simp; try rfl))); (case hk => intro p hp; first | exact absurd hp List.not_mem_nil | (obtain rfl := List.mem_singleton.1 hp; repeat (first | exact List.Mem.head _ | with_reducible assumption | apply mC))); (case ha => simp only [kP, kQ, kA, kB]; try rfl))
      refine xBn (fun w hR => hQ _ _ ?_)
      clear hQ Q
      go_wp2_with (first | (refine' xAb hR rfl rfl rfl ?_; clear hR; intro blk w hR) | (refine' xAa hR rfl rfl inferInstance ?_; clear hR; intro blk w hR) | (refine' aFq hR rfl rfl rfl inferInstance ?_) | (refine' aGq hR rfl rfl rfl inferInstance ?_) | (refine' aHq hR rfl rfl rfl inferInstance ?_) | (refine' aDq hR rfl rfl rfl inferInstance rfl ?_; clear hR; intro w hR) | (refine' aEq hR rfl rfl rfl inferInstance rfl rfl ?_; clear hR; intro w hR) | fail)
      (refine' bodyPost_ret (xBr Try.results43 rfl (hR.loadAll (P := Try.prog) (ty := 24) ?hm ?hn)) rfl ⟨?_, hR.below⟩; (case hm => first | with_reducible assumption | repeat (first | exact .head _ | with_reducible assumption | apply mC)); (case hn => first | rfl | simp))
      rw [hres.out]
end Go.Proofs.Ytdagdfcbnhfdkaa
namespace Go.Proofs.Ytdagdfcbnhfdkaa
open Go.RowKit
attribute [local irreducible] Calls
noncomputable def rl (n t : Nat) : List Value := [.int .u64 (wd n 0), .int .u64 (wd n 1), .int .u64 (wd n 2), .int .u64 (wd n 3), .int .u64 (wd t 0), .int .u64 (wd t 1), .int .u64 (wd t 2), .int .u64 (wd t 3), .slice none 0 0]
instance rowReason : RowT Try.prog 27 9 := .mk' (by kernel_rfl) (by kernel_rfl)
instance cellHolds : CellT Try.prog 30 := .mk' (by kernel_rfl) (by kernel_rfl)
instance cellParts : CellT Try.prog 25 := .mk' (by kernel_rfl) (by kernel_rfl)
theorem xAs.new {b : Nat} {o o' : Obj} : ∀ {L L' : List (Nat × Obj)}, xAs L b o o' L' → (b, o') ∈ L'
  | [], _, h => h.elim
  | q :: L, L', h => by
    rcases h with ⟨rfl, rfl⟩ | ⟨L'', h, rfl⟩
    · exact .head _
    · exact .tail _ h.new
instance zeroInt : ZeroT Try.prog 3 [.int .i64 0] := ⟨.int .i64 0, by kernel_rfl, rfl⟩
instance zeroHolds : ZeroT Try.prog 30 [.nilFunc] := ⟨.nilFunc, by kernel_rfl, rfl⟩
end Go.Proofs.Ytdagdfcbnhfdkaa
namespace Go.Proofs.Ytdagdfcbnhfdkaa
open Go.RowKit
section
variable {P : Program} {ops : Array Oper} {B0 : Nat} {w0 : World} {tl : List Nat} {Kp : List (Nat × Obj)} {Q : Exit → Act → World → Prop}
structure IsNew (P : Program) (o : Oper) (a : Act) (ob : Obj) (mk : Nat → Value) : Prop where
  guard : o.guard = none
  run : ∀ (w : World), (execOp a.eval o).run P w = .ok (.value (mk w.heap.size)) (w.alloc ob)
theorem IsNew.of_put {o : Oper} {a : Act} {ob : Obj} {mk : Nat → Value} {u : Value} {dst : Option Tmp} (hs : ∀ cs b, o.op ≠ .select cs b) (h : ∀ d, dst = some d → d ∉ o.looksAt ops) (hn : IsNew P o (a.put dst u) ob mk) : IsNew P o a ob mk :=
  ⟨hn.guard, fun w => by rw [← execOp_put o hs a dst u h]; exact hn.run w⟩
theorem wpList_new {rest : List Oper} {o : Oper} {a : Act} {w : World} {L : List (Nat × Obj)} (hR : Rep B0 w0 L w) {ob : Obj} {mk : Nat → Value} (hn : IsNew P o a ob mk) (h : ∀ b w', Rep B0 w0 ((b, ob) :: L) w' → wpList P ops Q rest (a.put o.dst (mk b)) w') : wpList P ops Q (o :: rest) a w :=
  wpList_plain hn.guard fun _ hK => by
    unfold Oper.wp
    rw [hn.run]
    exact hK _ _ (h _ _ (hR.alloc _))
end
end Go.Proofs.Ytdagdfcbnhfdkaa
namespace Go.Proofs.Ytdagdfcbnhfdkaa
open Go.RowKit
section
variable {P : Program} {ops : Array Oper} {rest : List Oper} {o : Oper} {a : Act} {w w0 : World} {Q : Exit → Act → World → Prop} {B0 : Nat} {L : List (Nat × Obj)}
theorem Rep.drop1 {p : Nat × Obj} (h : Rep B0 w0 (p :: L) w) : Rep B0 w0 L w := h.weaken (List.sublist_cons_self _ _)
theorem Rep.apart {p : Nat × Obj} (h : Rep B0 w0 (p :: L) w) : ∀ q, q ∈ L → q.1 ≠ p.1 := fun q hq e => by
  have := h.uniq
  rw [List.map_cons, List.nodup_cons] at this
  exact this.1 (List.mem_map.2 ⟨q, hq, e⟩)
theorem wpList_makeRep {ty E : TypeId} {x y : Operand} {vx vy : Value} {n c : Nat} {l : List Value} (hR : Rep B0 w0 L w) (hg : o.guard = none) (hop : o.op = .makeSlice ty x y) (hx : ev a x = some vx) (hy : ev a y = some vy)
    (hrun : ∀ w, (Instr.makeSlice ty vx vy).run P w = .ok (.slice (some ⟨w.heap.size, 0, none⟩) n c) (w.alloc (.cells l.toArray E)))
    (h : ∀ b w', Rep B0 w0 ((b, .cells l.toArray E) :: L) w' → wpList P ops Q rest (a.put o.dst (.slice (some ⟨b, 0, none⟩) n c)) w') : wpList P ops Q (o :: rest) a w :=
  wpList_plain hg fun _ hK => by
    have hx := xBt hx
    have hy := xBt hy
    unfold Oper.wp execOp
    simp only [hop, hx, hy, hrun, Sem.run_bind, Result.andThen_ok, Sem.run_pure]
    exact hK _ _ (h _ _ (hR.alloc _))
end
end Go.Proofs.Ytdagdfcbnhfdkaa
