/- The contract of the closure in primes.Check at great numbers, and of primes.Check. -/
import Derived.Test.YtdagdfcbnhfdkaaMHolds
import Derived.Test.YtdagdfcbnhfdkaaMP
import Derived.Test.YtdagdfcbnhfdkaaMF
set_option linter.unusedVariables false
set_option linter.unusedSimpArgs false
namespace Go.Proofs.Ytdagdfcbnhfdkaa
open Go.RowKit
attribute [local irreducible] Calls Instr.build Instr.buildSlice
section
variable {B0 : Nat} {w0 : World}
set_option maxRecDepth 100000 in
set_option maxHeartbeats 8000000 in
theorem holds_high (bm bh : Nat) (n t k : Nat) (p : Nat → RT) {w : World} {l : List Value} {m : Nat} {L0 : List (Nat × Obj)} {Lf : Nat → List (Nat × Obj)} (hl : RAt B0 w0 L0 (.node n t k p) l) (ho : Own7 B0 w0 bm bh L0 Lf) (hm : m < 32) (hn : 4294967296 ≤ n)
    (ih : ∀ i, ∀ {w : World} {l : List Value} {m : Nat} {L0 : List (Nat × Obj)} {Lf : Nat → List (Nat × Obj)}, RAt B0 w0 L0 (p i) l → Own7 B0 w0 bm bh L0 Lf → m ≤ 32 → Rep B0 w0 (Lf m) w →
      Calls Try.prog 38 #[.agg l.toArray, .pointer (some ⟨bm, 0, none⟩), .pointer (some ⟨bh, 0, none⟩)] w fun e w' => HoldsOut B0 w0 Lf (p i) m e w') (hR : Rep B0 w0 (Lf m) w) :
    Calls Try.prog 38 #[.agg l.toArray, .pointer (some ⟨bm, 0, none⟩), .pointer (some ⟨bh, 0, none⟩)] w fun e w' => HoldsOut B0 w0 Lf (.node n t k p) m e w' := by
  have hl0 := hl
  obtain ⟨hB, htB, a, cap, V, rfl, hkc, hcm, hmem, hsub⟩ := hl
  have hs := ho.set m (m + 1)
  have hm1 := ho.mem (m + 1)
  have em : ((m + 1 : Nat) : Int) = (m : Int) + 1 := by omega
  rw [em] at hs hm1
  have f1 : IntKind.i64.wrap ((m : Int) + 1) = (m : Int) + 1 := by rw [IntKind.wrap_i64]; omega
  have hm0 := ho.mem m
  have tn := rr_n n t (.slice a k cap)
  have tt := rr_t n t (.slice a k cap)
  have ta := rr_v n t (.slice a k cap)
  have tl := rrow_length n t (.slice a k cap)
  have g1 : (m : Int) + 1 ≤ (32 : Int) := by omega
  have g1' : decide ((32 : Int) < (m : Int) + 1) = false := decide_eq_false (by omega)
  have g1'' : ¬ (32 : Int) < (m : Int) + 1 := by omega
  have cb := fun w => bits_any n hB w
  have hbl : ¬ (blen n : Int) ≤ 32 := by
    have := (xBq n 32)
    intro h
    have := this.1 (by omega)
    omega
  have hbl' : decide ((blen n : Int) ≤ 32) = false := decide_eq_false hbl
  generalize (blen n : Int) = bl at *
  obtain ⟨n0, hn0⟩ : ∃ n, n = 0 := ⟨_, rfl⟩
  obtain ⟨n1, hn1⟩ : ∃ n, n = 1 := ⟨_, rfl⟩
  have o0 : ∀ w, Calls Try.prog 40 #[.int .u64 0] w fun e w' => e = .returned (num n0) ∧ Below w.heap.size w w' := fun w => by
    rw [hn0]; exact of_any 0 (by decide) w
  have o1 : ∀ w, Calls Try.prog 40 #[.int .u64 1] w fun e w' => e = .returned (num n1) ∧ Below w.heap.size w w' := fun w => by
    rw [hn1]; exact of_any 1 (by decide) w
  have L0' : n0 < B := lt_B (by omega)
  have L1' : n1 < B := lt_B (by omega)
  obtain ⟨ls, hls⟩ : ∃ x, n - 1 = x := ⟨_, rfl⟩
  have hlB : ls < B := by omega
  obtain ⟨bw, hbw⟩ : ∃ c : Int, bor (n : Int) (n1 : Int) = c := ⟨_, rfl⟩
  have s1 := s_lit (d := ls) (c := bw) hB L1' (by rw [hn1, show n + B - 1 = ls + B by omega, Nat.add_mod_right, Nat.mod_eq_of_lt hlB]) hbw
  have hgb := good_big (t := t) (k := k) (p := p) hn hB
  rw [hls] at hgb
  have h0n : num n0 = num (lastN p 0) := by rw [hn0, lastN_zero]
  have h1n : num n1 = num (facB (fun i => mostN (p i).num ls) 0) := by rw [hn1]; rfl
  have e0n : nl n0 = nl (lastN p 0) := by rw [hn0, lastN_zero]
  have e1n : nl n1 = nl (facB (fun i => mostN (p i).num ls) 0) := by rw [hn1]; rfl
  replace hn0 := Held.mk hn0
  replace hn1 := Held.mk hn1
  replace hls := Held.mk hls
  replace hbw := Held.mk hbw
  replace hgb := Held.mk hgb
  replace e0n := Held.mk e0n
  replace e1n := Held.mk e1n
  replace hmem := Held.mk hmem
  replace hsub := Held.mk hsub
  clear h0n h1n
  go_enter Try.func38, Try.ntmps38
  go_wp2_with (first | (refine' xAb hR rfl rfl rfl ?_; clear hR; intro blk w hR) | (refine' xAa hR rfl rfl inferInstance ?_; clear hR; intro blk w hR) | (refine' aFq hR rfl rfl rfl inferInstance ?_) | (refine' aGq hR rfl rfl rfl inferInstance ?_) | (refine' aHq hR rfl rfl rfl inferInstance ?_) | (refine' aIq hR rfl rfl rfl inferInstance rfl ?_; clear hR; intro w hR) | (refine' aJq hR rfl rfl rfl inferInstance rfl rfl ?_; clear hR; intro w hR) | (go_at_call 39; refine (cb _).mono ?_; rintro e w ⟨rfl, hb⟩; replace hR := hR.call hb; clear hb))
  refine' xCf hR [1, 1, 1, 1, 1, 1, 1, 2, 2, 2] 7 5 _ _ [8, 9] xBx (by kernel_rfl) rfl rfl rfl rfl rfl (isAlloc rfl rfl ?z1) ?_
  case z1 => exact inferInstance
  intro K hK
  clear hR
  repeat ((first | (refine xBl ?_) | (refine' xAt (by decide) rfl (.inl rfl) rfl ?ha ?_) | (refine' xAt (by decide) rfl (.inr rfl) rfl ?ha ?_) | (refine' xAr rfl rfl rfl inferInstance ?hm ?hn ?ha ?_; (case hm => first | with_reducible assumption | repeat (first | exact .head _ | with_reducible assumption | apply mC)); (case hn => first | rfl | simp)) | (refine' xAo rfl rfl rfl inferInstance ?hm ?hv ?hn ?ha ?_; (case hm => first | with_reducible assumption | repeat (first | exact .head _ | with_reducible assumption | apply mC)); (case hv => first | with_reducible assumption | (simp only [kC, kD, kE, kF]; try rfl)); (case hn => first | rfl | simp)) | (refine' xAi rfl rfl rfl inferInstance ?hm ?hv ?ha ?_; (case hm => first | with_reducible assumption | repeat (first | exact .head _ | with_reducible assumption | apply mC)); (case hv => first | rfl | with_reducible assumption)) | (refine' hd_keepAll rfl rfl rfl inferInstance ?hm ?hn ?ha ?_; (case hm => first | with_reducible assumption | repeat (first | exact .head _ | with_reducible assumption | apply mC)); (case hn => first | rfl | simp)) | (refine' xAv rfl rfl rfl inferInstance ?hm ?hv ?hn ?ha ?_; (case hm => first | with_reducible assumption | repeat (first | exact .head _ | with_reducible assumption | apply mC)); (case hv => first | with_reducible assumption | (simp only [kC, kD, kE, kF]; try rfl)); (case hn => first | rfl | simp)) | (refine' xAn rfl rfl rfl inferInstance ?hm ?hv ?ha ?_; (case hm => first | with_reducible assumption | repeat (first | exact .head _ | with_reducible assumption | apply mC)); (case hv => first | rfl | with_reducible assumption)) | ((first | refine' xAe (by decide) rfl rfl rfl rfl (fun w => ?hq) ?ha ?_ | refine' xBb (by decide) rfl rfl rfl rfl (fun w => ?hq) ?ha ?_ | refine' xAp (by decide) rfl rfl rfl (fun w => ?hq) ?ha ?_ | refine' xAd (by decide) rfl rfl rfl (fun w => ?hq) ?ha ?_ | refine' xAq (by decide) rfl rfl rfl (fun w => ?hq) ?ha ?_ | refine' xBa (by decide) rfl rfl rfl rfl (fun w => ?hq) ?ha ?_ | refine' xBf (by decide) rfl rfl rfl rfl rfl rfl (fun w => ?hq) ?ha ?_ | refine' xBd (by decide) rfl rfl (fun w => ?hq) ?ha ?_ | refine' xAw (by decide) rfl rfl rfl (fun w => ?hq) ?ha ?_ | refine' xBe (by decide) rfl rfl rfl (fun w => ?hq) ?ha ?_); (case hq => go_simp; try rfl)) | (refine' xAm (by decide) rfl rfl rfl ?ha ?_) | (refine' xBi (by decide) rfl rfl rfl rfl ?ha ?_) | (refine' xBk (by decide) rfl ?ha ?_) | (refine' hd_callI rfl rfl rfl (xBh Try.func40 (by kernel_rfl) (by kernel_rfl) _) (fun w => o1 w) ?ha ?_) | (refine' hd_callI rfl rfl rfl (xBh Try.func41 (by kernel_rfl) (by kernel_rfl) _) (fun w => s1 w) ?ha ?_)); try (case ha => simp only [kP, kQ, kA, kB]; try rfl))
  try simp only [List.nil_append, List.cons_append]
  refine xBp (hK _ _ (fun _ => ?_))
  clear hK K
  refine xBo (fun Q hQ => ?_)
  simp only [kP, kQ, kA, kB]
  repeat ((first | refine' xAx rfl (.inl rfl) rfl ?hk ?ha ?_ | refine' xAx rfl (.inr rfl) rfl ?hk ?ha ?_ | (refine' xAl rfl rfl rfl inferInstance rfl ?hs rfl rfl ?hn ?hk ?ha ?_; (case hs => repeat (first | exact xAs.head | with_reducible assumption | apply xAs.tail)); (case hn => first | rfl | simp)) | (refine' xAh rfl rfl rfl inferInstance rfl rfl ?hs ?hn ?hl ?hk ?ha ?_; (case hs => repeat (first | exact xAs.head | with_reducible assumption | apply xAs.tail)); (case hn => first | exact oD rfl | (show _ < 4; with_reducible assumption) | (simp; try omega)); (case hl => first | with_reducible assumption | (simp only [nl, kA, kB]; first | done | rfl) | rfl)) | (refine' xAk rfl rfl rfl inferInstance rfl rfl ?hvn ?hs ?hn ?hl ?hk ?ha ?_; (case hvn => first | rfl | simp); (case hs => repeat (first | exact xAs.head | with_reducible assumption | apply xAs.tail)); (case hn => first | exact oD rfl | (show _ < 4; with_reducible assumption) | (simp; try omega)); (case hl => first | with_reducible assumption | (simp only [nl, kA, kB]; first | done | rfl) | rfl)) | (refine' xBj rfl (fun w => ?hq) ?hk ?ha ?_; (case hq => go_simp; try rfl))); (case hk => intro p hp; repeat (first | exact hp | apply mT)); (case ha => simp only [kP, kQ, kA, kB]; try rfl))
  refine xBn (fun w hR => hQ _ _ ?_)
  clear hQ Q
  go_wp2_with (first | (refine' xAb hR rfl rfl rfl ?_; clear hR; intro blk w hR) | (refine' xAa hR rfl rfl inferInstance ?_; clear hR; intro blk w hR) | (refine' aFq hR rfl rfl rfl inferInstance ?_) | (refine' aGq hR rfl rfl rfl inferInstance ?_) | (refine' aHq hR rfl rfl rfl inferInstance ?_) | (refine' aIq hR rfl rfl rfl inferInstance rfl ?_; clear hR; intro w hR) | (refine' aJq hR rfl rfl rfl inferInstance rfl rfl ?_; clear hR; intro w hR) | (go_at_call 40; refine (o1 _).mono ?_; rintro e w ⟨rfl, hb⟩; replace hR := hR.call hb; clear hb) | (go_at_call 40; refine (o0 _).mono ?_; rintro e w ⟨rfl, hb⟩; replace hR := hR.call hb; clear hb))
  rename_i b3 u1 u2 u3 b5 u4 u5 u6 b7 u7 u8 u9 K0 k0
  obtain ⟨b8, hb8⟩ : ∃ x, x = blk := ⟨_, rfl⟩
  subst hb8
  try simp only [Act.put, kA, kB, List.setIfInBounds_toArray]
  rw [e0n.out, e1n.out] at hR
  have n1ok : n1 = 1 := hn1.out
  obtain ⟨Q, hQd⟩ : ∃ Q : Nat → Nat, Q = fun i => mostN (p i).num ls := ⟨_, rfl⟩
  have hQi : ∀ i, Q i = mostN (p i).num ls := fun i => by rw [hQd]
  rw [← hQd] at hgb hR
  replace hQd := Held.mk hQd
  replace hQi := Held.mk hQi
  clear n1ok
  refine' xCk (false :: false :: false :: false :: false :: false :: false :: false :: false :: false :: true :: true :: false :: false :: false :: false :: false :: false :: false :: false :: false :: false :: false :: false :: false :: false :: false :: false :: false :: false :: false :: false :: false :: false :: false :: false :: false :: false :: false :: false :: false :: false :: false :: false :: false :: false :: false :: false :: false :: false :: false :: true :: true :: true :: true :: true :: true :: true :: true :: true :: true :: true :: true :: true :: true :: true :: true :: true :: true :: true :: true :: true :: true :: true :: true :: true :: true :: true :: true :: true :: true :: false :: false :: false :: false :: false :: false :: false :: false :: false :: false :: false :: false :: false :: false :: false :: false :: false :: false :: false :: false :: false :: []) (fun (x : Nat × Nat) l => l.set 50 (.int .i64 (x.1 : Int))) (fun x => (b8, .cells (nl (lastN p x.1)).toArray 24) :: (b7, .cells (nl (facB Q x.1)).toArray 24) :: (b5, .cells (nl ls).toArray 24) :: (b3, .cells (rrow n t (.slice a k cap)).toArray 27) :: Lf x.2) (fun x => k - x.1) (fun x => x.1 ≤ k ∧ x.2 ≤ 32 ∧ x.2 = m + 1 + smr (fun i => cntR (p i)) x.1 ∧ ∀ j, j < x.1 → xCl (p j) ∧ (j = 0 ∨ (p (j - 1)).num < (p j).num) ∧ mostN (p j).num ls ≠ 1) (0, m + 1) ?h0 ?hO ?hR ?hs
  case h0 => exact xBg rfl rfl rfl
  case hO => exact ⟨Nat.zero_le _, by show m + 1 ≤ 32; omega, rfl, fun j h => absurd h (Nat.not_lt_zero j)⟩
  case hR => exact hR
  case hs =>
    clear hR s1 cb f1 hm0 hm1 hs g1 g1' g1'' hbl hbl' em hbw e0n e1n
    intro x tm w hO ht hR K hK
    obtain ⟨i, mm⟩ := x
    obtain ⟨hi, hmm, hcnt, hg⟩ := hO
    simp only at hi hmm hcnt hg ht hR
    have g0 : 0 ≤ (i : Int) := by omega
    have lastB : lastN p i < B := by
      cases i with
      | zero => rw [lastN_zero]; exact lt_B (by decide)
      | succ i => rw [lastN_succ]; exact (hsub.out i (by omega)).num_lt
    have fB := facB_lt Q i
    by_cases hik : i = k
    · subst hik
      clear hK
      have t1 : ¬ (i : Int) < (i : Int) := by omega
      have t1' : decide ((i : Int) < (i : Int)) = false := decide_eq_false t1
      obtain ⟨F, hF⟩ : ∃ F, facB Q i = F := ⟨_, rfl⟩
      rw [hF] at hR fB hgb
      have hgi : xCl (.node n t i p) ↔ n < F * F ∧ witR n t i fun i => (p i).num := by
        rw [hgb.out]
        exact ⟨fun h => h.2, fun h => ⟨hg, h⟩⟩
      have hcn : m + cntR (.node n t i p) = mm := by
        rw [hcnt]
        show m + (1 + smr (fun i => cntR (p i)) i) = _
        omega
      obtain ⟨lo, hlo⟩ : ∃ x, F * F % B = x := ⟨_, rfl⟩
      obtain ⟨hh, hhh⟩ : ∃ x, F * F / B = x := ⟨_, rfl⟩
      have loB : lo < B := by rw [← hlo]; exact Nat.mod_lt _ B_pos
      have hhB : hh < B := by rw [← hhh, Nat.div_lt_iff_lt_mul B_pos]; exact Nat.mul_lt_mul'' fB fB
      have m2 := m_lit fB fB hlo hhh
      obtain ⟨c, hc⟩ : ∃ c, cmpN lo n = c := ⟨_, rfl⟩
      have c2 := cmp_lit loB hB hc
      have hc' : 0 < c ↔ n < lo := by rw [← hc, cmpN_gt]
      have hbig : n < F * F ↔ hh ≠ 0 ∨ n < lo := by
        have := Nat.div_add_mod (F * F) B
        rw [hlo, hhh] at this
        rw [← this]
        by_cases h0 : hh = 0
        · subst h0; rw [Nat.mul_zero, Nat.zero_add]; exact ⟨.inr, fun h => h.resolve_left (fun h => h rfl)⟩
        · have : B * 1 ≤ B * hh := Nat.mul_le_mul_left B (by omega)
          exact ⟨fun _ => .inl h0, fun _ => by omega⟩
      obtain ⟨e1, he1⟩ : ∃ e, eqN hh n0 = e := ⟨_, rfl⟩
      have he1' : e1 = false ↔ hh ≠ 0 := by
        rw [← he1]
        by_cases h : hh = n0
        · rw [xBw h]; exact ⟨fun h => (by cases h), fun h' => absurd (h.trans hn0.out) h'⟩
        · rw [xBz hhB L0' h]; exact ⟨fun _ h' => h (h'.trans hn0.out.symm), fun _ => rfl⟩
      obtain ⟨e2, he2⟩ : ∃ e, decide (0 < c) = e := ⟨_, rfl⟩
      have he2' : e2 = true ↔ n < lo := by rw [← he2, decide_eq_true_iff, hc']
      obtain ⟨s, hs⟩ : ∃ s : Bool, (s = true ↔ witR n t i fun i => (p i).num) := by
        by_cases h : witR n t i fun i => (p i).num
        · exact ⟨true, fun _ => h, fun _ => rfl⟩
        · exact ⟨false, fun h => (by cases h), fun h' => absurd h' h⟩
      have hls' := hls.out
      have cw := fun (L : List (Nat × Obj)) (hL : ∀ w, Rep B0 w0 L w → Rep B0 w0 L0 w) (w : World) (hR : Rep B0 w0 L w) => witness_any n t i p (by omega) (hl0.mono hL) s hs hR
      rw [hls'] at cw
      have cw1 := fun (b12 b13 : Nat) (z1 z2 : List Value) (t1 t2 : TypeId) (w : World) => cw ((b13, .cells z1.toArray t1) :: (b12, .cells z2.toArray t2) :: (b8, .cells (nl (lastN p i)).toArray 24) :: (b7, .cells (nl F).toArray 24) :: (b5, .cells (nl ls).toArray 24) :: (b3, .cells (rrow n t (.slice a i cap)).toArray 27) :: Lf mm) (fun w hw => ho.sub mm w hw.drop1.drop1.drop1.drop1.drop1.drop1) w
      clear cw
      have hgoal : ∀ b : Bool, (b = true ↔ (e1 = false ∨ e2 = true) ∧ s = true) → (b = true ↔ xCl (.node n t i p) ∧ m + cntR (.node n t i p) ≤ 32) := fun b hb => by
        rw [hb, he1', he2', hs, hgi, hbig, hcn]
        exact ⟨fun h => ⟨h, hmm⟩, fun h => h.1⟩
      replace hgoal := Held.mk hgoal
      replace hcn := Held.mk hcn
      replace hmm := Held.mk hmm
      have hcase : (e1 = false ∧ s = true) ∨ (e1 = false ∧ s = false) ∨ (e1 = true ∧ e2 = true ∧ s = true) ∨ (e1 = true ∧ e2 = true ∧ s = false) ∨ (e1 = true ∧ e2 = false) := by
        cases e1 <;> cases e2 <;> cases s <;> simp
      generalize lastN p i = la at *
      clear hs he1' he2' hgi hbig hc' hF hi hg hcnt lastB hlo hhh hl0 ih hmem hsub hkc hcm hn hls hgb hQd hQi hn1 o1 hls' hc
      rcases hcase with ⟨rfl, rfl⟩ | ⟨rfl, rfl⟩ | ⟨rfl, rfl, rfl⟩ | ⟨rfl, rfl, rfl⟩ | ⟨rfl, rfl⟩
      all_goals
        clear hn0
        repeat (first | (obtain ⟨x, tm', e, ht'⟩ := xAu ht; clear ht; subst e; have ht := ht'; clear ht') | (obtain ⟨tm', e, ht'⟩ := xAj ht; clear ht; subst e; have ht := ht'; clear ht'))
        obtain rfl := xAy ht
        clear ht
        go_wp2_with (first | (refine' xAb hR rfl rfl rfl ?_; clear hR; intro blk w hR) | (refine' xAa hR rfl rfl inferInstance ?_; clear hR; intro blk w hR) | (refine' aFq hR rfl rfl rfl inferInstance ?_) | (refine' aGq hR rfl rfl rfl inferInstance ?_) | (refine' aHq hR rfl rfl rfl inferInstance ?_) | (refine' aIq hR rfl rfl rfl inferInstance rfl ?_; clear hR; intro w hR) | (refine' aJq hR rfl rfl rfl inferInstance rfl rfl ?_; clear hR; intro w hR) | (go_at_call 44; refine (m2 _).mono ?_; rintro e w ⟨rfl, hb⟩; replace hR := hR.call hb; clear hb))
        refine xAf hR [0, 0, 0, 0, 0, 0, 0, 0, 0, 0, 0, 0, 0, 0, 0, 2] [] xBx (by kernel_rfl) rfl rfl (fun K hK => ?_)
        clear hR
        repeat ((first | (refine xBl ?_) | (refine' xAt (by decide) rfl (.inl rfl) rfl ?ha ?_) | (refine' xAt (by decide) rfl (.inr rfl) rfl ?ha ?_) | (refine' xAr rfl rfl rfl inferInstance ?hm ?hn ?ha ?_; (case hm => first | with_reducible assumption | repeat (first | exact .head _ | with_reducible assumption | apply mC)); (case hn => first | rfl | simp)) | (refine' xAo rfl rfl rfl inferInstance ?hm ?hv ?hn ?ha ?_; (case hm => first | with_reducible assumption | repeat (first | exact .head _ | with_reducible assumption | apply mC)); (case hv => first | with_reducible assumption | (simp only [kC, kD, kE, kF]; try rfl)); (case hn => first | rfl | simp)) | (refine' xAi rfl rfl rfl inferInstance ?hm ?hv ?ha ?_; (case hm => first | with_reducible assumption | repeat (first | exact .head _ | with_reducible assumption | apply mC)); (case hv => first | rfl | with_reducible assumption)) | (refine' xAv rfl rfl rfl inferInstance ?hm ?hv ?hn ?ha ?_; (case hm => first | with_reducible assumption | repeat (first | exact .head _ | with_reducible assumption | apply mC)); (case hv => first | with_reducible assumption | (simp only [kC, kD, kE, kF]; try rfl)); (case hn => first | rfl | simp)) | (refine' xAn rfl rfl rfl inferInstance ?hm ?hv ?ha ?_; (case hm => first | with_reducible assumption | repeat (first | exact .head _ | with_reducible assumption | apply mC)); (case hv => first | rfl | with_reducible assumption)) | ((first | refine' xAe (by decide) rfl rfl rfl rfl (fun w => ?hq) ?ha ?_ | refine' xBb (by decide) rfl rfl rfl rfl (fun w => ?hq) ?ha ?_ | refine' xAp (by decide) rfl rfl rfl (fun w => ?hq) ?ha ?_ | refine' xAd (by decide) rfl rfl rfl (fun w => ?hq) ?ha ?_ | refine' xAq (by decide) rfl rfl rfl (fun w => ?hq) ?ha ?_ | refine' xBa (by decide) rfl rfl rfl rfl (fun w => ?hq) ?ha ?_ | refine' xBf (by decide) rfl rfl rfl rfl rfl rfl (fun w => ?hq) ?ha ?_ | refine' xBd (by decide) rfl rfl (fun w => ?hq) ?ha ?_ | refine' xAw (by decide) rfl rfl rfl (fun w => ?hq) ?ha ?_ | refine' xBe (by decide) rfl rfl rfl (fun w => ?hq) ?ha ?_); (case hq => go_simp; try rfl)) | (refine' xAm (by decide) rfl rfl rfl ?ha ?_) | (refine' xBi (by decide) rfl rfl rfl rfl ?ha ?_) | (refine' xBk (by decide) rfl ?ha ?_) | (refine' xBc rfl rfl rfl (xBh Try.func40 (by kernel_rfl) (by kernel_rfl) _) (fun w => o0 w) ?ha ?_) | (refine' xBc rfl rfl rfl (xBh Try.func42 (by kernel_rfl) (by kernel_rfl) _) (fun w => c2 w) ?ha ?_) | (refine' xCg rfl rfl rfl (xBh Try.func45 (by kernel_rfl) (by kernel_rfl) _) (fun w hw => cw1 _ _ _ _ _ _ w hw) ?ha ?_)); try (case ha => simp only [kP, kQ, kA, kB]; try rfl))
        refine xBp (hK _ _ ?_)
        clear hK K
        refine xBo (fun Q hQ => ?_)
        try simp only [List.nil_append, List.cons_append]
        repeat ((first | refine' xAx rfl (.inl rfl) rfl ?hk ?ha ?_ | refine' xAx rfl (.inr rfl) rfl ?hk ?ha ?_ | (refine' xAl rfl rfl rfl inferInstance rfl ?hs rfl rfl ?hn ?hk ?ha ?_; (case hs => repeat (first | exact xAs.head | with_reducible assumption | apply xAs.tail)); (case hn => first | rfl | simp)) | (refine' xAh rfl rfl rfl inferInstance rfl rfl ?hs ?hn ?hl ?hk ?ha ?_; (case hs => repeat (first | exact xAs.head | with_reducible assumption | apply xAs.tail)); (case hn => first | exact oD rfl | (show _ < 4; with_reducible assumption) | (simp; try omega)); (case hl => first | with_reducible assumption | (simp only [nl, kA, kB]; first | done | rfl) | rfl)) | (refine' xAk rfl rfl rfl inferInstance rfl rfl ?hvn ?hs ?hn ?hl ?hk ?ha ?_; (case hvn => first | rfl | simp); (case hs => repeat (first | exact xAs.head | with_reducible assumption | apply xAs.tail)); (case hn => first | exact oD rfl | (show _ < 4; with_reducible assumption) | (simp; try omega)); (case hl => first | with_reducible assumption | (simp only [nl, kA, kB]; first | done | rfl) | rfl)) | (refine' xBj rfl (fun w => ?hq) ?hk ?ha ?_; (case hq => go_simp; try rfl))); (case hk => intro p hp; first | exact absurd hp List.not_mem_nil | (obtain rfl := List.mem_singleton.1 hp; repeat (first | exact List.Mem.head _ | with_reducible assumption | apply mC))); (case ha => simp only [kP, kQ, kA, kB]; try rfl))
        refine xBn (fun w hR => hQ _ _ ?_)
        clear hQ Q
        go_wp2_with (first | (refine' xAb hR rfl rfl rfl ?_; clear hR; intro blk w hR) | (refine' xAa hR rfl rfl inferInstance ?_; clear hR; intro blk w hR) | (refine' aFq hR rfl rfl rfl inferInstance ?_) | (refine' aGq hR rfl rfl rfl inferInstance ?_) | (refine' aHq hR rfl rfl rfl inferInstance ?_) | (refine' aIq hR rfl rfl rfl inferInstance rfl ?_; clear hR; intro w hR) | (refine' aJq hR rfl rfl rfl inferInstance rfl rfl ?_; clear hR; intro w hR) | fail)
        go_ret
      · exact ⟨true, mm, rfl, by have := hmm.out; omega, hgoal.out _ (by simp), fun _ => hcn.out.symm, hR.drop1.drop1.drop1.drop1.drop1.drop1⟩
      · exact ⟨false, mm, rfl, by have := hmm.out; omega, hgoal.out _ (by simp), fun _ => hcn.out.symm, hR.drop1.drop1.drop1.drop1.drop1.drop1⟩
      · exact ⟨true, mm, rfl, by have := hmm.out; omega, hgoal.out _ (by simp), fun _ => hcn.out.symm, hR.drop1.drop1.drop1.drop1.drop1.drop1⟩
      · exact ⟨false, mm, rfl, by have := hmm.out; omega, hgoal.out _ (by simp), fun _ => hcn.out.symm, hR.drop1.drop1.drop1.drop1.drop1.drop1⟩
      · exact ⟨false, mm, rfl, by have := hmm.out; omega, hgoal.out _ (by simp), fun _ => hcn.out.symm, hR.drop1.drop1.drop1.drop1.drop1.drop1⟩
    · have gi : (i : Int) < (k : Int) := by omega
      have gi' : decide ((i : Int) < (k : Int)) = true := decide_eq_true gi
      have hik' : i < k := by omega
      obtain ⟨bb, off, rfl, hmr⟩ := hmem.out (by omega)
      have hsi := hsub.out i hik'
      have hld := reason_load (hmr w (ho.sub mm w hR.drop1.drop1.drop1.drop1) i hik') hsi.len
      obtain ⟨ti, ai, ki, ci, hVi, hnB, htiB⟩ := hsi.row
      rw [hVi] at hld hsi
      have hgood : xCl (.node n t k p) → xCl (p i) ∧ lastN p i < (p i).num ∧ mostN (p i).num ls ≠ 1 := fun h => by
        obtain ⟨h1, h2, h3⟩ := (hgb.out.1 h).1 i hik'
        exact ⟨h1, (lastN_good h1).1 h2, h3⟩
      have hback : xCl (p i) → lastN p i < (p i).num → (i = 0 ∨ (p (i - 1)).num < (p i).num) := fun h1 h2 => (lastN_good h1).2 h2
      have hcle : mm + cntR (p i) ≤ m + cntR (.node n t k p) := by
        have := smr_mono (fun i => cntR (p i)) (i + 1) k (by omega)
        have e : smr (fun i => cntR (p i)) (i + 1) = smr (fun i => cntR (p i)) i + cntR (p i) := rfl
        show mm + cntR (p i) ≤ m + (1 + smr (fun i => cntR (p i)) k)
        omega
      have hsmr : smr (fun i => cntR (p i)) (i + 1) = smr (fun i => cntR (p i)) i + cntR (p i) := rfl
      have hls1 := lastN_succ p i
      have hfs : facB Q (i + 1) = facB Q i * Q i % B := rfl
      have hQQ := hQi.out i
      have hpr := good_pr (p i)
      have ihi := @ih i
      clear ih
      obtain ⟨ni, hni⟩ : ∃ x, (p i).num = x := ⟨_, rfl⟩
      obtain ⟨la, hla⟩ : ∃ x, lastN p i = x := ⟨_, rfl⟩
      obtain ⟨fi, hfi⟩ : ∃ x, facB Q i = x := ⟨_, rfl⟩
      rw [hni] at hld hnB hsi hls1 hpr hQQ
      simp only [hni, hla] at hgood hback
      rw [hla] at hR lastB
      rw [hfi] at hR fB hfs
      have un := rr_n ni ti (.slice ai ki ci)
      have ul := rrow_length ni ti (.slice ai ki ci)
      have ch := fun (b10 : Nat) (w : World) (hR : Rep B0 w0 ((b10, .cells (rrow ni ti (.slice ai ki ci)).toArray 27) :: (b8, .cells (nl la).toArray 24) :: (b7, .cells (nl fi).toArray 24) :: (b5, .cells (nl ls).toArray 24) :: (b3, .cells (rrow n t (.slice (some ⟨bb, off, none⟩) k cap)).toArray 27) :: Lf mm) w) => ihi (m := mm) hsi (((((ho.cons (b3, .cells (rrow n t (.slice (some ⟨bb, off, none⟩) k cap)).toArray 27)).cons (b5, .cells (nl ls).toArray 24)).cons (b7, .cells (nl fi).toArray 24)).cons (b8, .cells (nl la).toArray 24)).cons (b10, .cells (rrow ni ti (.slice ai ki ci)).toArray 27)) hmm hR
      obtain ⟨c, hc⟩ : ∃ c, cmpN la ni = c := ⟨_, rfl⟩
      have c1 := cmp_lit lastB hnB hc
      have hc' : 0 ≤ c ↔ ni ≤ la := by rw [← hc, cmpN_ge]
      have ei : IntKind.i64.wrap ((i : Int) + 1) = ((i + 1 : Nat) : Int) := by rw [IntKind.wrap_i64]; unfold maxLen at hcm; omega
      clear ihi hsi hmr hVi hmem hsub hl0 hni hla hfi hi
      by_cases hA : ni ≤ la
      · have d1 : decide (0 ≤ c) = true := decide_eq_true (hc'.2 hA)
        have hfin : ¬ (xCl (.node n t k p) ∧ m + cntR (.node n t k p) ≤ 32) := fun h => by
          have := (hgood h.1).2.1
          omega
        replace hfin := Held.mk hfin
        clear hA hc' hgood hback hcle hsmr hls1 hfs hQQ hpr ch hg hcnt hK hgb hQd hQi hc
        repeat (first | (obtain ⟨x, tm', e, ht'⟩ := xAu ht; clear ht; subst e; have ht := ht'; clear ht') | (obtain ⟨tm', e, ht'⟩ := xAj ht; clear ht; subst e; have ht := ht'; clear ht'))
        obtain rfl := xAy ht
        clear ht
        go_wp2_with (first | go_skip | (refine' xAb hR rfl rfl rfl ?_; clear hR; intro blk w hR) | (refine' xAa hR rfl rfl inferInstance ?_; clear hR; intro blk w hR) | (refine' aFq hR rfl rfl rfl inferInstance ?_) | (refine' aGq hR rfl rfl rfl inferInstance ?_) | (refine' aHq hR rfl rfl rfl inferInstance ?_) | (refine' aIq hR rfl rfl rfl inferInstance rfl ?_; clear hR; intro w hR) | (refine' aJq hR rfl rfl rfl inferInstance rfl rfl ?_; clear hR; intro w hR) | (refine' xAg hR rfl rfl rfl inferInstance ?hm ?hn ?_; (case hm => first | with_reducible assumption | repeat (first | exact .head _ | with_reducible assumption | apply mC)); (case hn => first | rfl | simp)) | (refine' xAc hR rfl rfl rfl inferInstance ?hm ?hv ?_; (case hm => first | with_reducible assumption | repeat (first | exact .head _ | with_reducible assumption | apply mC)); (case hv => first | rfl | with_reducible assumption)) | (refine' xAz hR rfl rfl rfl inferInstance ?hm ?hv ?hn ?_; (case hm => first | with_reducible assumption | repeat (first | exact .head _ | with_reducible assumption | apply mC)); (case hv => first | with_reducible assumption | (simp only [kC, kD, kE, kF]; try rfl)); (case hn => first | rfl | simp)) | (refine' xBs rfl rfl rfl hld ?_) | (go_at_call 42; refine (c1 _).mono ?_; rintro e w ⟨rfl, hb⟩; replace hR := hR.call hb; clear hb))
        go_ret
        exact ⟨false, mm, rfl, by omega, ⟨fun h => (by cases h), fun h => absurd h hfin.out⟩, fun h => (by cases h), hR.drop1.drop1.drop1.drop1.drop1⟩
      have d1 : decide (0 ≤ c) = false := decide_eq_false fun h => hA (hc'.1 h)
      have hfn := ho.fn mm
      by_cases hP : xCl (p i) ∧ mm + cntR (p i) ≤ 32
      case neg =>
        have chN : ∀ (b10 : Nat) (w : World), Rep B0 w0 ((b10, .cells (rrow ni ti (.slice ai ki ci)).toArray 27) :: (b8, .cells (nl la).toArray 24) :: (b7, .cells (nl fi).toArray 24) :: (b5, .cells (nl ls).toArray 24) :: (b3, .cells (rrow n t (.slice (some ⟨bb, off, none⟩) k cap)).toArray 27) :: Lf mm) w → Calls Try.prog 38 #[.agg (rrow ni ti (.slice ai ki ci)).toArray, .pointer (some ⟨bm, 0, none⟩), .pointer (some ⟨bh, 0, none⟩)] w fun e w' => e = .returned (.bool false) ∧ ∃ m', m' ≤ 33 ∧ Rep B0 w0 ((b10, .cells (rrow ni ti (.slice ai ki ci)).toArray 27) :: (b8, .cells (nl la).toArray 24) :: (b7, .cells (nl fi).toArray 24) :: (b5, .cells (nl ls).toArray 24) :: (b3, .cells (rrow n t (.slice (some ⟨bb, off, none⟩) k cap)).toArray 27) :: Lf m') w' := fun b10 w hR =>
          (ch b10 w hR).mono fun e w' ⟨b, m', he, h33, h1, h2, hR⟩ => by
            have hb : b = false := by
              cases b
              · rfl
              · exact absurd (h1.1 rfl) hP
            rw [hb] at he
            exact ⟨he, m', h33, hR⟩
        have hfin : ¬ (xCl (.node n t k p) ∧ m + cntR (.node n t k p) ≤ 32) := fun h => hP ⟨(hgood h.1).1, by omega⟩
        replace hfin := Held.mk hfin
        clear hA hc' hgood hback hcle hsmr hls1 hfs hQQ hpr ch hg hcnt hK hgb hQd hQi hc hP
        repeat (first | (obtain ⟨x, tm', e, ht'⟩ := xAu ht; clear ht; subst e; have ht := ht'; clear ht') | (obtain ⟨tm', e, ht'⟩ := xAj ht; clear ht; subst e; have ht := ht'; clear ht'))
        obtain rfl := xAy ht
        clear ht
        go_wp2_with (first | go_skip | (refine' xAb hR rfl rfl rfl ?_; clear hR; intro blk w hR) | (refine' xAa hR rfl rfl inferInstance ?_; clear hR; intro blk w hR) | (refine' aFq hR rfl rfl rfl inferInstance ?_) | (refine' aGq hR rfl rfl rfl inferInstance ?_) | (refine' aHq hR rfl rfl rfl inferInstance ?_) | (refine' aIq hR rfl rfl rfl inferInstance rfl ?_; clear hR; intro w hR) | (refine' aJq hR rfl rfl rfl inferInstance rfl rfl ?_; clear hR; intro w hR) | (refine' xAg hR rfl rfl rfl inferInstance ?hm ?hn ?_; (case hm => first | with_reducible assumption | repeat (first | exact .head _ | with_reducible assumption | apply mC)); (case hn => first | rfl | simp)) | (refine' xAc hR rfl rfl rfl inferInstance ?hm ?hv ?_; (case hm => first | with_reducible assumption | repeat (first | exact .head _ | with_reducible assumption | apply mC)); (case hv => first | rfl | with_reducible assumption)) | (refine' xAz hR rfl rfl rfl inferInstance ?hm ?hv ?hn ?_; (case hm => first | with_reducible assumption | repeat (first | exact .head _ | with_reducible assumption | apply mC)); (case hv => first | with_reducible assumption | (simp only [kC, kD, kE, kF]; try rfl)); (case hn => first | rfl | simp)) | (refine' xBs rfl rfl rfl hld ?_) | (go_at_call 42; refine (c1 _).mono ?_; rintro e w ⟨rfl, hb⟩; replace hR := hR.call hb; clear hb) | (go_at_call 38; refine (chN _ _ hR).mono ?_; clear hR chN; rintro e w ⟨rfl, m', h33, hR⟩))
        go_ret
        exact ⟨false, m', rfl, h33, ⟨fun h => (by cases h), fun h => absurd h hfin.out⟩, fun h => (by cases h), hR.drop1.drop1.drop1.drop1.drop1⟩
      obtain ⟨hP1, hP2⟩ := hP
      obtain ⟨mn, hmn⟩ : ∃ x, mm + cntR (p i) = x := ⟨_, rfl⟩
      have chP : ∀ (b10 : Nat) (w : World), Rep B0 w0 ((b10, .cells (rrow ni ti (.slice ai ki ci)).toArray 27) :: (b8, .cells (nl la).toArray 24) :: (b7, .cells (nl fi).toArray 24) :: (b5, .cells (nl ls).toArray 24) :: (b3, .cells (rrow n t (.slice (some ⟨bb, off, none⟩) k cap)).toArray 27) :: Lf mm) w → Calls Try.prog 38 #[.agg (rrow ni ti (.slice ai ki ci)).toArray, .pointer (some ⟨bm, 0, none⟩), .pointer (some ⟨bh, 0, none⟩)] w fun e w' => e = .returned (.bool true) ∧ Rep B0 w0 ((b10, .cells (rrow ni ti (.slice ai ki ci)).toArray 27) :: (b8, .cells (nl la).toArray 24) :: (b7, .cells (nl fi).toArray 24) :: (b5, .cells (nl ls).toArray 24) :: (b3, .cells (rrow n t (.slice (some ⟨bb, off, none⟩) k cap)).toArray 27) :: Lf mn) w' := fun b10 w hR =>
        (ch b10 w hR).mono fun e w' ⟨b, m', he, h33, h1, h2, hR⟩ => by
          have hb := h1.2 ⟨hP1, hP2⟩
          rw [hb] at he
          rw [h2 hb, hmn] at hR
          exact ⟨he, hR⟩
      have n2 := (hpr hP1).1
      have lpos : 0 < ls := by have := hls.out; omega
      obtain ⟨pw, hpw⟩ : ∃ x, mostN ni ls = x := ⟨_, rfl⟩
      have mo := fun w => most_any ni ls hnB hlB n2 lpos w
      have hpB := (most_lt (q := ni) (M := ls) n2 lpos hlB).2
      rw [hpw] at mo hpB hQQ hgood
      rw [hmn] at hP2
      have hltA : la < ni := by omega
      by_cases hp1 : pw = n1
      · have eb : eqN pw n1 = true := xBw hp1
        have hfin : ¬ (xCl (.node n t k p) ∧ m + cntR (.node n t k p) ≤ 32) := fun h => (hgood h.1).2.2 (hp1.trans hn1.out)
        replace hfin := Held.mk hfin
        replace hP2 := Held.mk hP2
        clear hA hc' hgood hback hcle hsmr hls1 hfs hQQ hpr ch hg hcnt hK hgb hQd hQi hc hP1 hp1 n2 hpw hmn hltA hn1
        repeat (first | (obtain ⟨x, tm', e, ht'⟩ := xAu ht; clear ht; subst e; have ht := ht'; clear ht') | (obtain ⟨tm', e, ht'⟩ := xAj ht; clear ht; subst e; have ht := ht'; clear ht'))
        obtain rfl := xAy ht
        clear ht
        go_wp2_with (first | go_skip | (refine' xAb hR rfl rfl rfl ?_; clear hR; intro blk w hR) | (refine' xAa hR rfl rfl inferInstance ?_; clear hR; intro blk w hR) | (refine' aFq hR rfl rfl rfl inferInstance ?_) | (refine' aGq hR rfl rfl rfl inferInstance ?_) | (refine' aHq hR rfl rfl rfl inferInstance ?_) | (refine' aIq hR rfl rfl rfl inferInstance rfl ?_; clear hR; intro w hR) | (refine' aJq hR rfl rfl rfl inferInstance rfl rfl ?_; clear hR; intro w hR) | (refine' xAg hR rfl rfl rfl inferInstance ?hm ?hn ?_; (case hm => first | with_reducible assumption | repeat (first | exact .head _ | with_reducible assumption | apply mC)); (case hn => first | rfl | simp)) | (refine' xAc hR rfl rfl rfl inferInstance ?hm ?hv ?_; (case hm => first | with_reducible assumption | repeat (first | exact .head _ | with_reducible assumption | apply mC)); (case hv => first | rfl | with_reducible assumption)) | (refine' xAz hR rfl rfl rfl inferInstance ?hm ?hv ?hn ?_; (case hm => first | with_reducible assumption | repeat (first | exact .head _ | with_reducible assumption | apply mC)); (case hv => first | with_reducible assumption | (simp only [kC, kD, kE, kF]; try rfl)); (case hn => first | rfl | simp)) | (refine' xBs rfl rfl rfl hld ?_) | (go_at_call 42; refine (c1 _).mono ?_; rintro e w ⟨rfl, hb⟩; replace hR := hR.call hb; clear hb) | (go_at_call 38; refine (chP _ _ hR).mono ?_; clear hR chP; rintro e w ⟨rfl, hR⟩) | (go_at_call 43; refine (mo _).mono ?_; rintro e w ⟨rfl, hb⟩; replace hR := hR.call hb; clear hb))
        refine xAf hR [0, 0, 0] [] xBx (by kernel_rfl) rfl rfl (fun K hK => ?_)
        clear hR
        repeat ((first | (refine xBl ?_) | (refine' xAt (by decide) rfl (.inl rfl) rfl ?ha ?_) | (refine' xAt (by decide) rfl (.inr rfl) rfl ?ha ?_) | (refine' xAr rfl rfl rfl inferInstance ?hm ?hn ?ha ?_; (case hm => first | with_reducible assumption | repeat (first | exact .head _ | with_reducible assumption | apply mC)); (case hn => first | rfl | simp)) | (refine' xAo rfl rfl rfl inferInstance ?hm ?hv ?hn ?ha ?_; (case hm => first | with_reducible assumption | repeat (first | exact .head _ | with_reducible assumption | apply mC)); (case hv => first | with_reducible assumption | (simp only [kC, kD, kE, kF]; try rfl)); (case hn => first | rfl | simp)) | (refine' xAi rfl rfl rfl inferInstance ?hm ?hv ?ha ?_; (case hm => first | with_reducible assumption | repeat (first | exact .head _ | with_reducible assumption | apply mC)); (case hv => first | rfl | with_reducible assumption)) | (refine' xAv rfl rfl rfl inferInstance ?hm ?hv ?hn ?ha ?_; (case hm => first | with_reducible assumption | repeat (first | exact .head _ | with_reducible assumption | apply mC)); (case hv => first | with_reducible assumption | (simp only [kC, kD, kE, kF]; try rfl)); (case hn => first | rfl | simp)) | (refine' xAn rfl rfl rfl inferInstance ?hm ?hv ?ha ?_; (case hm => first | with_reducible assumption | repeat (first | exact .head _ | with_reducible assumption | apply mC)); (case hv => first | rfl | with_reducible assumption)) | ((first | refine' xAe (by decide) rfl rfl rfl rfl (fun w => ?hq) ?ha ?_ | refine' xBb (by decide) rfl rfl rfl rfl (fun w => ?hq) ?ha ?_ | refine' xAp (by decide) rfl rfl rfl (fun w => ?hq) ?ha ?_ | refine' xAd (by decide) rfl rfl rfl (fun w => ?hq) ?ha ?_ | refine' xAq (by decide) rfl rfl rfl (fun w => ?hq) ?ha ?_ | refine' xBa (by decide) rfl rfl rfl rfl (fun w => ?hq) ?ha ?_ | refine' xBf (by decide) rfl rfl rfl rfl rfl rfl (fun w => ?hq) ?ha ?_ | refine' xBd (by decide) rfl rfl (fun w => ?hq) ?ha ?_ | refine' xAw (by decide) rfl rfl rfl (fun w => ?hq) ?ha ?_ | refine' xBe (by decide) rfl rfl rfl (fun w => ?hq) ?ha ?_); (case hq => go_simp; try rfl)) | (refine' xAm (by decide) rfl rfl rfl ?ha ?_) | (refine' xBi (by decide) rfl rfl rfl rfl ?ha ?_) | (refine' xBk (by decide) rfl ?ha ?_) | (refine' xBc rfl rfl rfl (xBh Try.func40 (by kernel_rfl) (by kernel_rfl) _) (fun w => o1 w) ?ha ?_)); try (case ha => simp only [kP, kQ, kA, kB]; try rfl))
        refine xBp (hK _ _ ?_)
        clear hK K
        refine xBo (fun Q hQ => ?_)
        try simp only [List.nil_append, List.cons_append]
        repeat ((first | refine' xAx rfl (.inl rfl) rfl ?hk ?ha ?_ | refine' xAx rfl (.inr rfl) rfl ?hk ?ha ?_ | (refine' xAl rfl rfl rfl inferInstance rfl ?hs rfl rfl ?hn ?hk ?ha ?_; (case hs => repeat (first | exact xAs.head | with_reducible assumption | apply xAs.tail)); (case hn => first | rfl | simp)) | (refine' xAh rfl rfl rfl inferInstance rfl rfl ?hs ?hn ?hl ?hk ?ha ?_; (case hs => repeat (first | exact xAs.head | with_reducible assumption | apply xAs.tail)); (case hn => first | exact oD rfl | (show _ < 4; with_reducible assumption) | (simp; try omega)); (case hl => first | with_reducible assumption | (simp only [nl, kA, kB]; first | done | rfl) | rfl)) | (refine' xAk rfl rfl rfl inferInstance rfl rfl ?hvn ?hs ?hn ?hl ?hk ?ha ?_; (case hvn => first | rfl | simp); (case hs => repeat (first | exact xAs.head | with_reducible assumption | apply xAs.tail)); (case hn => first | exact oD rfl | (show _ < 4; with_reducible assumption) | (simp; try omega)); (case hl => first | with_reducible assumption | (simp only [nl, kA, kB]; first | done | rfl) | rfl)) | (refine' xBj rfl (fun w => ?hq) ?hk ?ha ?_; (case hq => go_simp; try rfl))); (case hk => intro p hp; first | exact absurd hp List.not_mem_nil | (obtain rfl := List.mem_singleton.1 hp; repeat (first | exact List.Mem.head _ | with_reducible assumption | apply mC))); (case ha => simp only [kP, kQ, kA, kB]; try rfl))
        refine xBn (fun w hR => hQ _ _ ?_)
        clear hQ Q
        go_wp2_with (first | (refine' xAb hR rfl rfl rfl ?_; clear hR; intro blk w hR) | (refine' xAa hR rfl rfl inferInstance ?_; clear hR; intro blk w hR) | (refine' aFq hR rfl rfl rfl inferInstance ?_) | (refine' aGq hR rfl rfl rfl inferInstance ?_) | (refine' aHq hR rfl rfl rfl inferInstance ?_) | (refine' aIq hR rfl rfl rfl inferInstance rfl ?_; clear hR; intro w hR) | (refine' aJq hR rfl rfl rfl inferInstance rfl rfl ?_; clear hR; intro w hR) | fail)
        go_ret
        exact ⟨false, mn, rfl, by have := hP2.out; omega, ⟨fun h => (by cases h), fun h => absurd h hfin.out⟩, fun h => (by cases h), hR.drop1.drop1.drop1.drop1.drop1.drop1⟩
      · have eb : eqN pw n1 = false := xBz hpB L1' hp1
        obtain ⟨fj, hfj⟩ : ∃ x, facB Q (i + 1) = x := ⟨_, rfl⟩
        obtain ⟨fh, hfh⟩ : ∃ x, fi * pw / B = x := ⟨_, rfl⟩
        have m3 := m_lit (l := fj) fB hpB (by rw [← hfj, hfs, hQQ]) hfh
        have hi1 : i + 1 ≤ k := by omega
        have hmu : k - (i + 1) < k - i := by omega
        have hg2 : ∀ j, j < i + 1 → xCl (p j) ∧ (j = 0 ∨ (p (j - 1)).num < (p j).num) ∧ mostN (p j).num ls ≠ 1 := fun j hj => by
          by_cases hji : j < i
          · exact hg j hji
          · obtain rfl : j = i := by omega
            have : (p j).num = ni := (lastN_succ p j).symm.trans hls1
            rw [this, hpw]
            exact ⟨hP1, hback hP1 hltA, fun h => hp1 (h.trans hn1.out.symm)⟩
        have hcn2 : mn = m + 1 + smr (fun i => cntR (p i)) (i + 1) := by rw [hsmr]; omega
        replace hi1 := Held.mk hi1
        replace hmu := Held.mk hmu
        replace hg2 := Held.mk hg2
        replace hcn2 := Held.mk hcn2
        replace hP2 := Held.mk hP2
        replace hls1 := Held.mk hls1
        replace hfj := Held.mk hfj
        clear hA hc' hgood hback hcle hsmr hfs hQQ hpr ch hg hcnt hgb hQd hQi hc hP1 hp1 n2 hpw hmn hltA hn1
        repeat (first | (obtain ⟨x, tm', e, ht'⟩ := xAu ht; clear ht; subst e; have ht := ht'; clear ht') | (obtain ⟨tm', e, ht'⟩ := xAj ht; clear ht; subst e; have ht := ht'; clear ht'))
        obtain rfl := xAy ht
        clear ht
        go_wp2_with (first | go_skip | (refine' xAb hR rfl rfl rfl ?_; clear hR; intro blk w hR) | (refine' xAa hR rfl rfl inferInstance ?_; clear hR; intro blk w hR) | (refine' aFq hR rfl rfl rfl inferInstance ?_) | (refine' aGq hR rfl rfl rfl inferInstance ?_) | (refine' aHq hR rfl rfl rfl inferInstance ?_) | (refine' aIq hR rfl rfl rfl inferInstance rfl ?_; clear hR; intro w hR) | (refine' aJq hR rfl rfl rfl inferInstance rfl rfl ?_; clear hR; intro w hR) | (refine' xAg hR rfl rfl rfl inferInstance ?hm ?hn ?_; (case hm => first | with_reducible assumption | repeat (first | exact .head _ | with_reducible assumption | apply mC)); (case hn => first | rfl | simp)) | (refine' xAc hR rfl rfl rfl inferInstance ?hm ?hv ?_; (case hm => first | with_reducible assumption | repeat (first | exact .head _ | with_reducible assumption | apply mC)); (case hv => first | rfl | with_reducible assumption)) | (refine' xAz hR rfl rfl rfl inferInstance ?hm ?hv ?hn ?_; (case hm => first | with_reducible assumption | repeat (first | exact .head _ | with_reducible assumption | apply mC)); (case hv => first | with_reducible assumption | (simp only [kC, kD, kE, kF]; try rfl)); (case hn => first | rfl | simp)) | (refine' xBs rfl rfl rfl hld ?_) | (go_at_call 42; refine (c1 _).mono ?_; rintro e w ⟨rfl, hb⟩; replace hR := hR.call hb; clear hb) | (go_at_call 38; refine (chP _ _ hR).mono ?_; clear hR chP; rintro e w ⟨rfl, hR⟩) | (go_at_call 43; refine (mo _).mono ?_; rintro e w ⟨rfl, hb⟩; replace hR := hR.call hb; clear hb))
        refine xAf hR [0, 0, 0] [] xBx (by kernel_rfl) rfl rfl (fun K hK => ?_)
        clear hR
        repeat ((first | (refine xBl ?_) | (refine' xAt (by decide) rfl (.inl rfl) rfl ?ha ?_) | (refine' xAt (by decide) rfl (.inr rfl) rfl ?ha ?_) | (refine' xAr rfl rfl rfl inferInstance ?hm ?hn ?ha ?_; (case hm => first | with_reducible assumption | repeat (first | exact .head _ | with_reducible assumption | apply mC)); (case hn => first | rfl | simp)) | (refine' xAo rfl rfl rfl inferInstance ?hm ?hv ?hn ?ha ?_; (case hm => first | with_reducible assumption | repeat (first | exact .head _ | with_reducible assumption | apply mC)); (case hv => first | with_reducible assumption | (simp only [kC, kD, kE, kF]; try rfl)); (case hn => first | rfl | simp)) | (refine' xAi rfl rfl rfl inferInstance ?hm ?hv ?ha ?_; (case hm => first | with_reducible assumption | repeat (first | exact .head _ | with_reducible assumption | apply mC)); (case hv => first | rfl | with_reducible assumption)) | (refine' xAv rfl rfl rfl inferInstance ?hm ?hv ?hn ?ha ?_; (case hm => first | with_reducible assumption | repeat (first | exact .head _ | with_reducible assumption | apply mC)); (case hv => first | with_reducible assumption | (simp only [kC, kD, kE, kF]; try rfl)); (case hn => first | rfl | simp)) | (refine' xAn rfl rfl rfl inferInstance ?hm ?hv ?ha ?_; (case hm => first | with_reducible assumption | repeat (first | exact .head _ | with_reducible assumption | apply mC)); (case hv => first | rfl | with_reducible assumption)) | ((first | refine' xAe (by decide) rfl rfl rfl rfl (fun w => ?hq) ?ha ?_ | refine' xBb (by decide) rfl rfl rfl rfl (fun w => ?hq) ?ha ?_ | refine' xAp (by decide) rfl rfl rfl (fun w => ?hq) ?ha ?_ | refine' xAd (by decide) rfl rfl rfl (fun w => ?hq) ?ha ?_ | refine' xAq (by decide) rfl rfl rfl (fun w => ?hq) ?ha ?_ | refine' xBa (by decide) rfl rfl rfl rfl (fun w => ?hq) ?ha ?_ | refine' xBf (by decide) rfl rfl rfl rfl rfl rfl (fun w => ?hq) ?ha ?_ | refine' xBd (by decide) rfl rfl (fun w => ?hq) ?ha ?_ | refine' xAw (by decide) rfl rfl rfl (fun w => ?hq) ?ha ?_ | refine' xBe (by decide) rfl rfl rfl (fun w => ?hq) ?ha ?_); (case hq => go_simp; try rfl)) | (refine' xAm (by decide) rfl rfl rfl ?ha ?_) | (refine' xBi (by decide) rfl rfl rfl rfl ?ha ?_) | (refine' xBk (by decide) rfl ?ha ?_) | (refine' xBc rfl rfl rfl (xBh Try.func40 (by kernel_rfl) (by kernel_rfl) _) (fun w => o1 w) ?ha ?_)); try (case ha => simp only [kP, kQ, kA, kB]; try rfl))
        refine xBp (hK _ _ ?_)
        clear hK K
        refine xBo (fun Q hQ => ?_)
        try simp only [List.nil_append, List.cons_append]
        repeat ((first | refine' xAx rfl (.inl rfl) rfl ?hk ?ha ?_ | refine' xAx rfl (.inr rfl) rfl ?hk ?ha ?_ | (refine' xAl rfl rfl rfl inferInstance rfl ?hs rfl rfl ?hn ?hk ?ha ?_; (case hs => repeat (first | exact xAs.head | with_reducible assumption | apply xAs.tail)); (case hn => first | rfl | simp)) | (refine' xAh rfl rfl rfl inferInstance rfl rfl ?hs ?hn ?hl ?hk ?ha ?_; (case hs => repeat (first | exact xAs.head | with_reducible assumption | apply xAs.tail)); (case hn => first | exact oD rfl | (show _ < 4; with_reducible assumption) | (simp; try omega)); (case hl => first | with_reducible assumption | (simp only [nl, kA, kB]; first | done | rfl) | rfl)) | (refine' xAk rfl rfl rfl inferInstance rfl rfl ?hvn ?hs ?hn ?hl ?hk ?ha ?_; (case hvn => first | rfl | simp); (case hs => repeat (first | exact xAs.head | with_reducible assumption | apply xAs.tail)); (case hn => first | exact oD rfl | (show _ < 4; with_reducible assumption) | (simp; try omega)); (case hl => first | with_reducible assumption | (simp only [nl, kA, kB]; first | done | rfl) | rfl)) | (refine' xBj rfl (fun w => ?hq) ?hk ?ha ?_; (case hq => go_simp; try rfl))); (case hk => intro p hp; first | exact absurd hp List.not_mem_nil | (obtain rfl := List.mem_singleton.1 hp; repeat (first | exact List.Mem.head _ | with_reducible assumption | apply mC))); (case ha => simp only [kP, kQ, kA, kB]; try rfl))
        refine xBn (fun w hR => hQ _ _ ?_)
        clear hQ Q
        go_wp2_with (first | (refine' xAb hR rfl rfl rfl ?_; clear hR; intro blk w hR) | (refine' xAa hR rfl rfl inferInstance ?_; clear hR; intro blk w hR) | (refine' aFq hR rfl rfl rfl inferInstance ?_) | (refine' aGq hR rfl rfl rfl inferInstance ?_) | (refine' aHq hR rfl rfl rfl inferInstance ?_) | (refine' aIq hR rfl rfl rfl inferInstance rfl ?_; clear hR; intro w hR) | (refine' aJq hR rfl rfl rfl inferInstance rfl rfl ?_; clear hR; intro w hR) | (go_at_call 44; refine (m3 _).mono ?_; rintro e w ⟨rfl, hb⟩; replace hR := hR.call hb; clear hb))
        refine hK.out (i + 1, mn) _ _ ⟨hi1.out, hP2.out, hcn2.out, hg2.out⟩ hmu.out (by exact xBg rfl rfl rfl) ?_
        show Rep B0 w0 ((b8, .cells (nl (lastN p (i + 1))).toArray 24) :: (b7, .cells (nl (facB Q (i + 1))).toArray 24) :: _) _
        rw [hls1.out, hfj.out]
        exact hR.drop1.drop1
end
end Go.Proofs.Ytdagdfcbnhfdkaa
namespace Go.Proofs.Ytdagdfcbnhfdkaa
open Go.RowKit
attribute [local irreducible] Calls Instr.build Instr.buildSlice
section
variable {B0 : Nat} {w0 w : World} {L : List (Nat × Obj)}
theorem holds_any (bm bh : Nat) (r : RT) : ∀ {w : World} {l : List Value} {m : Nat} {L0 : List (Nat × Obj)} {Lf : Nat → List (Nat × Obj)}, RAt B0 w0 L0 r l → Own7 B0 w0 bm bh L0 Lf → m ≤ 32 → Rep B0 w0 (Lf m) w →
      Calls Try.prog 38 #[.agg l.toArray, .pointer (some ⟨bm, 0, none⟩), .pointer (some ⟨bh, 0, none⟩)] w fun e w' => HoldsOut B0 w0 Lf r m e w' := by
  induction r with
  | leaf => intro w l m L0 Lf hl; exact hl.elim
  | node n t k p ih =>
    intro w l m L0 Lf hl ho hm hR
    by_cases h : m = 32 ∨ n < 4294967296
    · exact holds_low bm bh n t k p hl ho hm h hR
    · exact holds_high bm bh n t k p hl ho (by omega) (by omega) (fun i => ih i) hR
set_option maxRecDepth 100000 in
set_option maxHeartbeats 4000000 in
theorem check_any (r : RT) {l : List Value} (hr : RAt B0 w0 L r l) (b : Bool) (hb : b = true ↔ xCl r ∧ cntR r ≤ 32) (hR : Rep B0 w0 L w) : Calls Try.prog 14 #[.agg l.toArray] w fun e w' => e = .returned (.bool b) ∧ Rep B0 w0 L w' := by
  obtain ⟨t, a, k, c, hl, hn, ht⟩ := hr.row
  have ch : ∀ (b1 b3 b4 : Nat) (w : World), Rep B0 w0 ((b4, .cells [holdsV b3 b4].toArray 30) :: (b3, .cells [Value.int .i64 0].toArray 3) :: (b1, .cells l.toArray 27) :: L) w →
      Calls Try.prog 38 #[.agg l.toArray, .pointer (some ⟨b3, 0, none⟩), .pointer (some ⟨b4, 0, none⟩)] w fun e w' => e = Ending.returned (.bool b) ∧ Rep B0 w0 L w' := fun b1 b3 b4 w hR =>
    (holds_any b3 b4 r (m := 0) (L0 := L) (Lf := fun m => (b4, .cells [holdsV b3 b4].toArray 30) :: (b3, .cells [Value.int .i64 (m : Int)].toArray 3) :: (b1, .cells l.toArray 27) :: L) hr
      ⟨fun m w hw => hw.drop1.drop1.drop1, fun m m' => xAs.tail xAs.head, fun m => .head _⟩ (by decide) hR).mono fun e w' ⟨b', m', he, _, h1, _, hR⟩ => by
        rw [Nat.zero_add] at h1
        have : b' = b := Bool.eq_iff_iff.2 (h1.trans hb.symm)
        rw [this] at he
        exact ⟨he, hR.drop1.drop1.drop1⟩
  subst hl
  clear hr
  go_enter Try.func14, Try.ntmps14
  go_wp2_with (first | (refine' xAb hR rfl rfl rfl ?_; clear hR; intro blk w hR) | (refine' xAa hR rfl rfl inferInstance ?_; clear hR; intro blk w hR) | (refine' aFq hR rfl rfl rfl inferInstance ?_) | (refine' aGq hR rfl rfl rfl inferInstance ?_) | (refine' aHq hR rfl rfl rfl inferInstance ?_) | (refine' aDq hR rfl rfl rfl inferInstance rfl ?_; clear hR; intro w hR) | (refine' aEq hR rfl rfl rfl inferInstance rfl rfl ?_; clear hR; intro w hR) | (go_at_call 38; refine (ch _ _ _ _ hR).mono ?_; clear hR; rintro e w ⟨rfl, hR⟩))
  go_ret
  exact ⟨rfl, hR⟩
end
end Go.Proofs.Ytdagdfcbnhfdkaa
namespace Go.Proofs.Ytdagdfcbnhfdkaa
open Go.RowKit
attribute [local irreducible] Calls Instr.build Instr.buildSlice
noncomputable def rsl (f : Nat → Int) (k : Nat) : Nat → Int
  | 0 => (k : Int)
  | i + 1 => if rsl f k i ≤ 1048576 then wrap64 (rsl f k i + f i) else rsl f k i
theorem rsl_stop (f : Nat → Int) (k : Nat) {i : Nat} (h : ¬ rsl f k i ≤ 1048576) : ∀ j, rsl f k (i + j) = rsl f k i
  | 0 => rfl
  | j + 1 => by
    show (if rsl f k (i + j) ≤ 1048576 then wrap64 (rsl f k (i + j) + f (i + j)) else rsl f k (i + j)) = _
    rw [rsl_stop f k h j, if_neg h]
noncomputable def rszN : RT → Int
  | .leaf => 0
  | .node _ _ k p => wrap64 (1 + rsl (fun i => rszN (p i)) k k)
def SizeOut (B0 : Nat) (w0 : World) (L : List (Nat × Obj)) (x : Int) (e : Ending) (w' : World) : Prop := e = .returned (.int .i64 x) ∧ Rep B0 w0 L w'
section
variable {B0 : Nat} {w0 : World}
set_option maxRecDepth 100000 in
set_option maxHeartbeats 4000000 in
theorem rsizes_go (n t k : Nat) (p : Nat → RT) (a : Option Addr) (cap : Nat) {L : List (Nat × Obj)} {w : World} (hr : RAt B0 w0 L (.node n t k p) (rrow n t (.slice a k cap)))
    (ih : ∀ i, i < k → ∀ {w : World} {l : List Value} {L : List (Nat × Obj)}, RAt B0 w0 L (p i) l → Rep B0 w0 L w → Calls Try.prog 13 #[.agg l.toArray] w fun e w' => SizeOut B0 w0 L (rszN (p i)) e w') (hR : Rep B0 w0 L w) :
    Calls Try.prog 37 #[.slice a k cap] w fun e w' => SizeOut B0 w0 L (rsl (fun i => rszN (p i)) k k) e w' := by
  obtain ⟨_, _, a', cap', V, hrr, hkc, hcm, hmem, hsub⟩ := hr
  have ha : (Value.slice a k cap) = .slice a' k cap' := by
    have := congrArg (fun l => l[8]?) hrr
    exact Option.some.inj this
  obtain ⟨rfl, rfl⟩ : a = a' ∧ cap = cap' := by
    injection ha with h1 h2 h3
    exact ⟨h1, h3⟩
  clear hrr ha
  replace hmem := Held.mk hmem
  replace hsub := Held.mk hsub
  replace ih := Held.mk ih
  obtain ⟨f, hf⟩ : ∃ f, f = fun i => rszN (p i) := ⟨_, rfl⟩
  have hfi : ∀ i, rszN (p i) = f i := fun i => by rw [hf]
  simp only [hfi] at ih
  rw [← hf]
  replace hf := Held.mk hf
  clear hfi
  go_enter Try.func37, Try.ntmps37
  go_wp2_with (first | (refine' xAb hR rfl rfl rfl ?_; clear hR; intro blk w hR) | (refine' xAa hR rfl rfl inferInstance ?_; clear hR; intro blk w hR) | (refine' aFq hR rfl rfl rfl inferInstance ?_) | (refine' aGq hR rfl rfl rfl inferInstance ?_) | (refine' aHq hR rfl rfl rfl inferInstance ?_) | (refine' aDq hR rfl rfl rfl inferInstance rfl ?_; clear hR; intro w hR) | (refine' aEq hR rfl rfl rfl inferInstance rfl rfl ?_; clear hR; intro w hR) | fail)
  refine' loop_whileC hR (false :: false :: false :: false :: false :: false :: false :: true :: true :: true :: true :: true :: true :: true :: true :: true :: true :: true :: true :: true :: true :: true :: true :: true :: false :: []) (fun (x : Nat) l => (l.set 3 (.int .i64 (rsl f k x))).set 4 (.int .i64 (x : Int))) (fun x => k - x) (fun x => x ≤ k) 0 ?h0 ?hO ?hs
  case h0 => exact xBg rfl rfl rfl
  case hO => exact Nat.zero_le _
  case hs =>
    clear hR
    intro i tm w hO ht hR K hK
    have hst := fun h => rsl_stop f k (i := i) h (k - i)
    have hnx : rsl f k (i + 1) = if rsl f k i ≤ 1048576 then wrap64 (rsl f k i + f i) else rsl f k i := rfl
    rw [show i + (k - i) = k by omega] at hst
    obtain ⟨z, hz0⟩ : ∃ z, rsl f k i = z := ⟨_, rfl⟩
    rw [hz0] at ht hst hnx
    have g0 : 0 ≤ (i : Int) := by omega
    have hex : (i = k ∨ (i < k ∧ ¬ z ≤ 1048576)) ∨ (i < k ∧ z ≤ 1048576) := by omega
    rcases hex with hex | ⟨hik, hz⟩
    · clear hK
      have hend : rsl f k k = z := by
        rcases hex with h | ⟨_, h2⟩
        · rw [← h] at hz0 ⊢; exact hz0
        · exact hst h2
      replace hend := Held.mk hend
      have hcase : (decide ((i : Int) < (k : Int)) = false) ∨ (decide ((i : Int) < (k : Int)) = true ∧ decide (z ≤ 1048576) = false) := by
        rcases hex with h | ⟨h1, h2⟩
        · exact .inl (decide_eq_false (by omega))
        · exact .inr ⟨decide_eq_true (by omega), decide_eq_false h2⟩
      clear hex hO hst hnx hz0
      rcases hcase with t1 | ⟨t1, t2⟩
      · have t1' : ¬ (i : Int) < (k : Int) := of_decide_eq_false t1
        repeat (first | (obtain ⟨x, tm', e, ht'⟩ := xAu ht; clear ht; subst e; have ht := ht'; clear ht') | (obtain ⟨tm', e, ht'⟩ := xAj ht; clear ht; subst e; have ht := ht'; clear ht'))
        obtain rfl := xAy ht
        clear ht
        go_wp2_with (first | (refine' xAb hR rfl rfl rfl ?_; clear hR; intro blk w hR) | (refine' xAa hR rfl rfl inferInstance ?_; clear hR; intro blk w hR) | (refine' aFq hR rfl rfl rfl inferInstance ?_) | (refine' aGq hR rfl rfl rfl inferInstance ?_) | (refine' aHq hR rfl rfl rfl inferInstance ?_) | (refine' aDq hR rfl rfl rfl inferInstance rfl ?_; clear hR; intro w hR) | (refine' aEq hR rfl rfl rfl inferInstance rfl rfl ?_; clear hR; intro w hR) | (refine' xAg hR rfl rfl rfl inferInstance ?hm ?hn ?_; (case hm => first | with_reducible assumption | repeat (first | exact .head _ | with_reducible assumption | apply mC)); (case hn => first | rfl | simp)) | (refine' xAc hR rfl rfl rfl inferInstance ?hm ?hv ?_; (case hm => first | with_reducible assumption | repeat (first | exact .head _ | with_reducible assumption | apply mC)); (case hv => first | rfl | with_reducible assumption)) | fail)
        go_ret
        exact ⟨by rw [hend.out]; rfl, hR⟩
      · have t1' : (i : Int) < (k : Int) := oD t1
        have t2' : ¬ z ≤ 1048576 := of_decide_eq_false t2
        repeat (first | (obtain ⟨x, tm', e, ht'⟩ := xAu ht; clear ht; subst e; have ht := ht'; clear ht') | (obtain ⟨tm', e, ht'⟩ := xAj ht; clear ht; subst e; have ht := ht'; clear ht'))
        obtain rfl := xAy ht
        clear ht
        go_wp2_with (first | (refine' xAb hR rfl rfl rfl ?_; clear hR; intro blk w hR) | (refine' xAa hR rfl rfl inferInstance ?_; clear hR; intro blk w hR) | (refine' aFq hR rfl rfl rfl inferInstance ?_) | (refine' aGq hR rfl rfl rfl inferInstance ?_) | (refine' aHq hR rfl rfl rfl inferInstance ?_) | (refine' aDq hR rfl rfl rfl inferInstance rfl ?_; clear hR; intro w hR) | (refine' aEq hR rfl rfl rfl inferInstance rfl rfl ?_; clear hR; intro w hR) | (refine' xAg hR rfl rfl rfl inferInstance ?hm ?hn ?_; (case hm => first | with_reducible assumption | repeat (first | exact .head _ | with_reducible assumption | apply mC)); (case hn => first | rfl | simp)) | (refine' xAc hR rfl rfl rfl inferInstance ?hm ?hv ?_; (case hm => first | with_reducible assumption | repeat (first | exact .head _ | with_reducible assumption | apply mC)); (case hv => first | rfl | with_reducible assumption)) | fail)
        go_ret
        exact ⟨by rw [hend.out]; rfl, hR⟩
    · have g1 : (i : Int) < (k : Int) := by omega
      have t1 : decide ((i : Int) < (k : Int)) = true := decide_eq_true g1
      have t2 : decide (z ≤ 1048576) = true := decide_eq_true hz
      obtain ⟨bb, off, rfl, hmr⟩ := hmem.out (by omega)
      have hsi := hsub.out i hik
      have hld := reason_load (hmr w hR i hik) hsi.len
      have ci := fun (w : World) (hR : Rep B0 w0 L w) => ih.out i hik hsi hR
      generalize V i = vi at *
      have ei : IntKind.i64.wrap ((i : Int) + 1) = (i : Int) + 1 := by rw [IntKind.wrap_i64]; unfold maxLen at hcm; omega
      have ek : ((i + 1 : Nat) : Int) = (i : Int) + 1 := by omega
      replace ek := Held.mk ek
      have hi1 : i + 1 ≤ k := by omega
      rw [if_pos hz] at hnx
      replace hnx := Held.mk hnx
      obtain ⟨fx, hfx⟩ : ∃ y, f i = y := ⟨_, rfl⟩
      rw [hfx] at ci hnx
      clear hfx hst hz0
      have hmu : k - (i + 1) < k - i := by omega
      replace hi1 := Held.mk hi1
      replace hmu := Held.mk hmu
      clear hsi hmr hO hik hmem hsub ih hkc hcm
      repeat (first | (obtain ⟨x, tm', e, ht'⟩ := xAu ht; clear ht; subst e; have ht := ht'; clear ht') | (obtain ⟨tm', e, ht'⟩ := xAj ht; clear ht; subst e; have ht := ht'; clear ht'))
      obtain rfl := xAy ht
      clear ht
      go_wp2_with (first | (refine' xAb hR rfl rfl rfl ?_; clear hR; intro blk w hR) | (refine' xAa hR rfl rfl inferInstance ?_; clear hR; intro blk w hR) | (refine' aFq hR rfl rfl rfl inferInstance ?_) | (refine' aGq hR rfl rfl rfl inferInstance ?_) | (refine' aHq hR rfl rfl rfl inferInstance ?_) | (refine' aDq hR rfl rfl rfl inferInstance rfl ?_; clear hR; intro w hR) | (refine' aEq hR rfl rfl rfl inferInstance rfl rfl ?_; clear hR; intro w hR) | (refine' xAg hR rfl rfl rfl inferInstance ?hm ?hn ?_; (case hm => first | with_reducible assumption | repeat (first | exact .head _ | with_reducible assumption | apply mC)); (case hn => first | rfl | simp)) | (refine' xAc hR rfl rfl rfl inferInstance ?hm ?hv ?_; (case hm => first | with_reducible assumption | repeat (first | exact .head _ | with_reducible assumption | apply mC)); (case hv => first | rfl | with_reducible assumption)) | (refine' xBs rfl rfl rfl hld ?_) | (go_at_call 13; refine (ci _ hR).mono ?_; clear hR ci; rintro e w ⟨rfl, hR⟩))
      exact hK.out (i + 1) _ _ hi1.out hmu.out (by simp only [ek.out, hnx.out]; exact xBg rfl rfl rfl) hR
set_option maxRecDepth 100000 in
set_option maxHeartbeats 4000000 in
theorem rsize_any (r : RT) : ∀ {w : World} {l : List Value} {L : List (Nat × Obj)}, RAt B0 w0 L r l → Rep B0 w0 L w → Calls Try.prog 13 #[.agg l.toArray] w fun e w' => SizeOut B0 w0 L (rszN r) e w' := by
  induction r with
  | leaf => intro w l L h; exact h.elim
  | node n t k p ih =>
    intro w l L hr hR
    obtain ⟨t', a, k', cap, hl, _, _⟩ := hr.row
    obtain ⟨h1, h2, a', cap', V, hrr, hkc, hcm, hmem, hsub⟩ := hr
    have hr : RAt B0 w0 L (.node n t k p) (rrow n t (.slice a' k cap')) := ⟨h1, h2, a', cap', V, rfl, hkc, hcm, hmem, hsub⟩
    clear hl h1 h2 hmem hsub
    subst hrr
    have cr := fun (p0 : Nat × Obj) (w : World) (hR : Rep B0 w0 (p0 :: L) w) => rsizes_go n t k p a' cap' (hr.mono fun w hw => hw.drop1) (fun i _ => ih i) hR
    have tv := rr_v n t (.slice a' k cap')
    obtain ⟨z, hz⟩ : ∃ z, rsl (fun i => rszN (p i)) k k = z := ⟨_, rfl⟩
    have hres : rszN (.node n t k p) = wrap64 (1 + z) := by rw [← hz]; rfl
    rw [hz] at cr
    replace hres := Held.mk hres
    clear hr ih hz
    go_enter Try.func13, Try.ntmps13
    go_wp2_with (first | (refine' xAb hR rfl rfl rfl ?_; clear hR; intro blk w hR) | (refine' xAa hR rfl rfl inferInstance ?_; clear hR; intro blk w hR) | (refine' aFq hR rfl rfl rfl inferInstance ?_) | (refine' aGq hR rfl rfl rfl inferInstance ?_) | (refine' aHq hR rfl rfl rfl inferInstance ?_) | (refine' aDq hR rfl rfl rfl inferInstance rfl ?_; clear hR; intro w hR) | (refine' aEq hR rfl rfl rfl inferInstance rfl rfl ?_; clear hR; intro w hR) | (refine' xAg hR rfl rfl rfl inferInstance ?hm ?hn ?_; (case hm => first | with_reducible assumption | repeat (first | exact .head _ | with_reducible assumption | apply mC)); (case hn => first | rfl | simp)) | (refine' xAc hR rfl rfl rfl inferInstance ?hm ?hv ?_; (case hm => first | with_reducible assumption | repeat (first | exact .head _ | with_reducible assumption | apply mC)); (case hv => first | rfl | with_reducible assumption)) | (go_at_call 37; refine (cr _ _ hR).mono ?_; clear hR cr; rintro e w ⟨rfl, hR⟩))
    go_ret
    exact ⟨by rw [hres.out]; rfl, hR.drop1⟩
end
end Go.Proofs.Ytdagdfcbnhfdkaa
