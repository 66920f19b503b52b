/- The contract of balefireref07.holds at great numbers. -/
import Derived.Test.YtdagdfcbnhfdkaaMRHolds
set_option linter.unusedVariables false
set_option linter.unusedSimpArgs false
namespace Go.Proofs.Ytdagdfcbnhfdkaa
open Go.RowKit
attribute [local irreducible] Calls Instr.build Instr.buildSlice
section
variable {B0 : Nat} {w0 : World}
theorem cut_sameC {P : Program} {c : Code} {Q : Exit → Act → World → Prop} {l : List Value} {d : List Deferred} {w w0 : World} {B0 : Nat} {L : List (Nat × Obj)} (hR : Rep B0 w0 L w) (mask : List Bool) (upd : List Value → List Value)
    (h1 : ∀ Q' : Act → World → Prop, Held (∀ tm w', agree mask (upd l) tm → Rep B0 w0 L w' → Q' ⟨tm.toArray, d⟩ w') → c.wp P (Exit.then Q' fun _ _ _ => False) ⟨l.toArray, d⟩ w)
    (h2 : ∀ tm w', agree mask (upd l) tm → Rep B0 w0 L w' → Q .normal ⟨tm.toArray, d⟩ w') : c.wp P Q ⟨l.toArray, d⟩ w := by
  refine Code.wp_mono (fun e a w' h => ?_) (h1 (fun a w' => Q .normal a w') ⟨h2⟩)
  cases e <;> first | exact h | exact h.elim
theorem part_most {ni ls : Nat} (h2 : 2 ≤ ni) (h0 : 0 < ls) : mostN ni ls ≠ 1 ↔ ls % ni = 0 := by
  obtain ⟨e, he, hd, hn⟩ := most_is h2 h0
  constructor
  · intro h
    cases e with
    | zero => exact absurd (he.trans (Nat.pow_zero _)) h
    | succ e => exact Nat.mod_eq_zero_of_dvd (Nat.dvd_trans ⟨_, Nat.pow_succ'⟩ hd)
  · intro h h1
    cases e with
    | zero => exact hn (by rw [Nat.zero_add, Nat.pow_one]; exact Nat.dvd_of_mod_eq_zero h)
    | succ e =>
      rw [h1, Nat.pow_succ] at he
      have : 1 ≤ ni ^ e := Nat.pow_pos (by omega)
      have : 1 * 2 ≤ ni ^ e * ni := Nat.mul_le_mul this h2
      omega
set_option maxRecDepth 100000 in
set_option maxHeartbeats 16000000 in
theorem rholds_high (n t k : Nat) (p : Nat → RT) {w : World} {l : List Value} {L : List (Nat × Obj)} (hl : RAt B0 w0 [] (.node n t k p) l) (hn : 4294967296 ≤ n)
    (ih : ∀ i, ∀ {w : World} {l : List Value} {L : List (Nat × Obj)}, RAt B0 w0 [] (p i) l → Rep B0 w0 L w → Calls Try.prog 101 #[.agg l.toArray] w fun e w' => RHoldsOut B0 w0 L (p i) e w') (hR : Rep B0 w0 L w) :
    Calls Try.prog 101 #[.agg l.toArray] w fun e w' => RHoldsOut B0 w0 L (.node n t k p) e w' := by
  obtain ⟨hB, htB, a, cap, V, rfl, hkc, hcm, hmem, hsub⟩ := hl
  have tn := rr_n n t (.slice a k cap)
  have tt := rr_t n t (.slice a k cap)
  have ta := rr_v n t (.slice a k cap)
  have tl := rrow_length n t (.slice a k cap)
  have cb := fun w => refBits_any n hB w
  have hbl : ¬ (blen n : Int) ≤ 32 := by
    have := (xBq n 32)
    intro h
    have := this.1 (by omega)
    omega
  have hbl' : decide ((blen n : Int) ≤ 32) = false := decide_eq_false hbl
  generalize (blen n : Int) = bl at *
  obtain ⟨n1, hn1⟩ : ∃ n, n = 1 := ⟨_, rfl⟩
  have o1 : ∀ w, Calls Try.prog 93 #[.int .u64 1] w fun e w' => e = .returned (num n1) ∧ Below w.heap.size w w' := fun w => by
    rw [hn1]; exact xCm 1 (by decide) w
  have L1' : n1 < B := lt_B (by omega)
  obtain ⟨ls, hls⟩ : ∃ x, n - 1 = x := ⟨_, rfl⟩
  have hlB : ls < B := by omega
  obtain ⟨bw, hbw⟩ : ∃ c : Int, bor (n : Int) (n1 : Int) = c := ⟨_, rfl⟩
  have s1 := rs_mod (d := ls) (c := bw) hB L1' (by rw [hn1, show n + B - 1 = ls + B by omega, Nat.add_mod_right, Nat.mod_eq_of_lt hlB]) hbw
  have hgb := good_big (t := t) (k := k) (p := p) hn hB
  rw [hls] at hgb
  obtain ⟨Q, hQd⟩ : ∃ Q : Nat → Nat, Q = fun i => mostN (p i).num ls := ⟨_, rfl⟩
  have hQi : ∀ i, Q i = mostN (p i).num ls := fun i => by rw [hQd]
  rw [← hQd] at hgb
  have e1n : nl n1 = nl (facB Q 0) := by rw [hn1]; rfl
  replace hn1 := Held.mk hn1
  replace hls := Held.mk hls
  replace hgb := Held.mk hgb
  replace e1n := Held.mk e1n
  replace hmem := Held.mk hmem
  replace hsub := Held.mk hsub
  replace hQi := Held.mk hQi
  replace ih := Held.mk ih
  clear hQd hbw
  go_enter Try.func101, Try.ntmps101
  go_wp2_with (first | (refine' xAb hR rfl rfl rfl ?_; clear hR; intro blk w hR) | (refine' xAa hR rfl rfl inferInstance ?_; clear hR; intro blk w hR) | (refine' aFq hR rfl rfl rfl inferInstance ?_) | (refine' aGq hR rfl rfl rfl inferInstance ?_) | (refine' aHq hR rfl rfl rfl inferInstance ?_) | (refine' aDq hR rfl rfl rfl inferInstance rfl ?_; clear hR; intro w hR) | (refine' aEq hR rfl rfl rfl inferInstance rfl rfl ?_; clear hR; intro w hR) | (go_at_call 97; refine (cb _).mono ?_; rintro e w ⟨rfl, hb⟩; replace hR := hR.call hb; clear hb) | (go_at_call 93; refine (o1 _).mono ?_; rintro e w ⟨rfl, hb⟩; replace hR := hR.call hb; clear hb) | (go_at_call 59; refine (s1 _).mono ?_; rintro e w ⟨rfl, hb⟩; replace hR := hR.call hb; clear hb))
  rename_i b1 u1 u2 u3 b3 u4 u5 u6 b4 u7 u8 u9 K0 k0
  obtain ⟨b6, hb6⟩ : ∃ x, x = blk := ⟨_, rfl⟩
  subst hb6
  try simp only [Act.put, kA, kB, List.setIfInBounds_toArray]
  replace hR : Rep B0 w0 ((b6, .cells (nl (facB Q 0)).toArray 24) :: (b4, .cells (nl ls).toArray 24) :: (b3, .cells (nl n1).toArray 24) :: (b1, .cells (rrow n t (.slice a k cap)).toArray 27) :: L) w := by
    rw [← e1n.out]; exact hR
  refine' xCk (false :: false :: false :: false :: false :: false :: false :: false :: true :: true :: true :: true :: false :: false :: false :: false :: false :: false :: false :: false :: false :: false :: false :: false :: false :: false :: false :: false :: false :: false :: false :: false :: false :: false :: false :: false :: false :: false :: false :: false :: false :: false :: false :: false :: false :: false :: false :: false :: false :: false :: false :: true :: true :: true :: true :: true :: true :: true :: true :: true :: true :: true :: true :: true :: true :: true :: true :: true :: true :: true :: true :: true :: true :: true :: true :: true :: true :: true :: true :: true :: true :: true :: true :: true :: true :: true :: true :: true :: true :: true :: true :: true :: true :: true :: true :: true :: true :: true :: true :: true :: true :: true :: true :: true :: true :: false :: false :: false :: false :: false :: false :: false :: false :: false :: false :: false :: false :: false :: false :: false :: false :: false :: false :: false :: false :: false :: false :: false :: false :: false :: false :: false :: false :: false :: false :: false :: false :: false :: false :: false :: false :: false :: false :: false :: false :: false :: false :: false :: false :: false :: false :: false :: false :: false :: false :: false :: false :: false :: false :: false :: false :: false :: false :: false :: false :: false :: false :: false :: false :: false :: false :: false :: false :: false :: false :: false :: false :: false :: false :: false :: false :: false :: false :: false :: false :: false :: false :: false :: []) (fun (i : Nat) l => l.set 7 (.int .i64 (i : Int))) (fun i => (b6, .cells (nl (facB Q i)).toArray 24) :: (b4, .cells (nl ls).toArray 24) :: (b3, .cells (nl n1).toArray 24) :: (b1, .cells (rrow n t (.slice a k cap)).toArray 27) :: L) (fun i => k - i) (fun i => i ≤ k ∧ ∀ j, j < i → xCl (p j) ∧ (j = 0 ∨ (p (j - 1)).num < (p j).num) ∧ mostN (p j).num ls ≠ 1) 0 ?h0 ?hO hR ?hs
  case h0 => exact xBg rfl rfl rfl
  case hO => exact ⟨Nat.zero_le _, fun j h => absurd h (Nat.not_lt_zero j)⟩
  case hs =>
    clear hR s1 cb hbl hbl' e1n o1
    intro i tm w hO ht hR K hK
    obtain ⟨hi, hg⟩ := hO
    have g0 : 0 ≤ (i : Int) := by omega
    have fB := facB_lt Q i
    by_cases hik : i = k
    · subst hik
      clear hK
      have t1 : ¬ (i : Int) < (i : Int) := by omega
      have t1' : decide ((i : Int) < (i : Int)) = false := decide_eq_false t1
      obtain ⟨F, hF⟩ : ∃ F, facB Q i = F := ⟨_, rfl⟩
      rw [hF] at hR fB hgb
      have hgi : xCl (.node n t i p) ↔ n < F * F ∧ witR n t i fun i => (p i).num := by
        rw [hgb.out]
        exact ⟨fun h => h.2, fun h => ⟨hg, h⟩⟩
      obtain ⟨lo, hlo⟩ : ∃ x, F * F % B = x := ⟨_, rfl⟩
      obtain ⟨hh, hhh⟩ : ∃ x, F * F / B = x := ⟨_, rfl⟩
      have loB : lo < B := by rw [← hlo]; exact Nat.mod_lt _ B_pos
      have hhB : hh < B := by rw [← hhh, Nat.div_lt_iff_lt_mul B_pos]; exact Nat.mul_lt_mul'' fB fB
      have m2 := rm_lit fB fB hlo hhh
      obtain ⟨c, hc⟩ : ∃ c, cmpN lo n = c := ⟨_, rfl⟩
      have c2 := rc_lit loB hB hc
      have hc' : c ≤ 0 ↔ lo ≤ n := by rw [← hc, cmpN_le]
      have hbig : n < F * F ↔ hh ≠ 0 ∨ n < lo := by
        have := Nat.div_add_mod (F * F) B
        rw [hlo, hhh] at this
        rw [← this]
        by_cases h0 : hh = 0
        · subst h0; rw [Nat.mul_zero, Nat.zero_add]; exact ⟨.inr, fun h => h.resolve_left (fun h => h rfl)⟩
        · have : B * 1 ≤ B * hh := Nat.mul_le_mul_left B (by omega)
          exact ⟨fun _ => .inl h0, fun _ => by omega⟩
      obtain ⟨e1, he1⟩ : ∃ e, eqN hh 0 = e := ⟨_, rfl⟩
      have he1' : e1 = true ↔ hh = 0 := by
        rw [← he1]
        by_cases h : hh = 0
        · rw [xBw h]; exact ⟨fun _ => h, fun _ => rfl⟩
        · rw [xBz hhB B_pos h]; exact ⟨fun h => (by cases h), fun h' => absurd h' h⟩
      obtain ⟨e2, he2⟩ : ∃ e, decide (c ≤ 0) = e := ⟨_, rfl⟩
      have he2' : e2 = true ↔ lo ≤ n := by rw [← he2, decide_eq_true_iff, hc']
      obtain ⟨ct, hct⟩ : ∃ c, cmpN t n1 = c := ⟨_, rfl⟩
      obtain ⟨cn, hcn⟩ : ∃ c, cmpN t n = c := ⟨_, rfl⟩
      have v1 := rc_lit htB L1' hct
      have v2 := rc_lit htB hB hcn
      have hct' : ct ≤ 0 ↔ t ≤ n1 := by rw [← hct, cmpN_le]
      have hcn' : 0 ≤ cn ↔ n ≤ t := by rw [← hcn, cmpN_ge]
      obtain ⟨e3, he3⟩ : ∃ e, decide (ct ≤ 0) = e := ⟨_, rfl⟩
      obtain ⟨e4, he4⟩ : ∃ e, decide (0 ≤ cn) = e := ⟨_, rfl⟩
      have he3' : e3 = true ↔ t ≤ n1 := by rw [← he3, decide_eq_true_iff, hct']
      have he4' : e4 = true ↔ n ≤ t := by rw [← he4, decide_eq_true_iff, hcn']
      obtain ⟨er, her⟩ : ∃ e : Int, (if okE t n then (0 : Int) else 1) = e := ⟨_, rfl⟩
      obtain ⟨x, hx⟩ : ∃ x, (if okE t n then powN t ls n else 0) = x := ⟨_, rfl⟩
      have x1 := rexp_lit htB hlB hB hx her
      have xB : x < B := by
        rw [← hx]
        split
        · rw [powN_def]; exact Nat.lt_trans (Nat.mod_lt _ (by omega)) hB
        · exact lt_B (by decide)
      obtain ⟨e5, he5⟩ : ∃ e, eqN x n1 = e := ⟨_, rfl⟩
      have he5' : e5 = true ↔ x = n1 := by
        rw [← he5]
        by_cases h : x = n1
        · rw [xBw h]; exact ⟨fun _ => h, fun _ => rfl⟩
        · rw [xBz xB L1' h]; exact ⟨fun h => (by cases h), fun h' => absurd h' h⟩
      have hw : witR n t i (fun i => (p i).num) ↔ (1 < t ∧ t < n ∧ powN t ls n = 1 ∧ ∀ j, j < i → gcdN (subN (powN t (ls / (p j).num) n) 1 n) n = 1) := by unfold witR; rw [hls.out]
      have n11 := hn1.out
      have hcase : ((e1 = true ∧ e2 = true) ∨ (e1 = false ∧ e3 = true) ∨ (e1 = true ∧ e2 = false ∧ e3 = true) ∨ (e1 = false ∧ e3 = false ∧ e4 = true) ∨ (e1 = true ∧ e2 = false ∧ e3 = false ∧ e4 = true) ∨ (e1 = false ∧ e3 = false ∧ e4 = false ∧ e5 = false) ∨ (e1 = true ∧ e2 = false ∧ e3 = false ∧ e4 = false ∧ e5 = false)) ∨ ((e1 = false ∨ (e1 = true ∧ e2 = false)) ∧ e3 = false ∧ e4 = false ∧ e5 = true) := by
        cases e1 <;> cases e2 <;> cases e3 <;> cases e4 <;> cases e5 <;> simp
      rcases hcase with hcase | ⟨hcase, rfl, rfl, rfl⟩
      · have hno : ¬ xCl (.node n t i p) := fun hgd => by
          obtain ⟨h1, h2⟩ := hgi.1 hgd
          rw [hbig] at h1
          obtain ⟨w1, w2, w3, _⟩ := hw.1 h2
          have hok : okE t n := ⟨by omega, w2⟩
          rw [if_pos hok] at hx
          rcases hcase with ⟨h1', h2'⟩ | ⟨_, h⟩ | ⟨_, _, h⟩ | ⟨_, _, h⟩ | ⟨_, _, _, h⟩ | ⟨_, _, _, h⟩ | ⟨_, _, _, _, h⟩
          · have a1 := he1'.1 h1'
            have a2 := he2'.1 h2'
            omega
          · have := he3'.1 h; omega
          · have := he3'.1 h; omega
          · have := he4'.1 h; omega
          · have := he4'.1 h; omega
          · have : e5 = true := he5'.2 (by omega)
            rw [h] at this; cases this
          · have : e5 = true := he5'.2 (by omega)
            rw [h] at this; cases this
        replace hno := Held.mk hno
        clear he1' he2' he3' he4' he5' hgi hw hbig hc' hct' hcn' hF hi hg hlo hhh ih hmem hsub hn hls hgb hQi hn1 hc hct hcn hx her n11
        rcases hcase with ⟨rfl, rfl⟩ | ⟨rfl, rfl⟩ | ⟨rfl, rfl, rfl⟩ | ⟨rfl, rfl, rfl⟩ | ⟨rfl, rfl, rfl, rfl⟩ | ⟨rfl, rfl, rfl, rfl⟩ | ⟨rfl, rfl, rfl, rfl, rfl⟩
        all_goals
          repeat (first | (obtain ⟨x, tm', e, ht'⟩ := xAu ht; clear ht; subst e; have ht := ht'; clear ht') | (obtain ⟨tm', e, ht'⟩ := xAj ht; clear ht; subst e; have ht := ht'; clear ht'))
          obtain rfl := xAy ht
          clear ht
          go_wp2_with (first | go_skip | (refine' xAb hR rfl rfl rfl ?_; clear hR; intro blk w hR) | (refine' xAa hR rfl rfl inferInstance ?_; clear hR; intro blk w hR) | (refine' aFq hR rfl rfl rfl inferInstance ?_) | (refine' aGq hR rfl rfl rfl inferInstance ?_) | (refine' aHq hR rfl rfl rfl inferInstance ?_) | (refine' aDq hR rfl rfl rfl inferInstance rfl ?_; clear hR; intro w hR) | (refine' aEq hR rfl rfl rfl inferInstance rfl rfl ?_; clear hR; intro w hR) | (refine' xAg hR rfl rfl rfl inferInstance ?hm ?hn ?_; (case hm => first | with_reducible assumption | repeat (first | exact .head _ | with_reducible assumption | apply mC)); (case hn => first | rfl | simp)) | (refine' xAc hR rfl rfl rfl inferInstance ?hm ?hv ?_; (case hm => first | with_reducible assumption | repeat (first | exact .head _ | with_reducible assumption | apply mC)); (case hv => first | rfl | with_reducible assumption)) | (refine' xAz hR rfl rfl rfl inferInstance ?hm ?hv ?hn ?_; (case hm => first | with_reducible assumption | repeat (first | exact .head _ | with_reducible assumption | apply mC)); (case hv => first | with_reducible assumption | (simp only [kC, kD, kE, kF]; try rfl)); (case hn => first | rfl | simp)) | (go_at_call 132; refine (m2 _).mono ?_; rintro e w ⟨rfl, hb⟩; replace hR := hR.call hb; clear hb) | (go_at_call 50; refine (c2 _).mono ?_; rintro e w ⟨rfl, hb⟩; replace hR := hR.call hb; clear hb) | (go_at_call 50; refine (v1 _).mono ?_; rintro e w ⟨rfl, hb⟩; replace hR := hR.call hb; clear hb) | (go_at_call 50; refine (v2 _).mono ?_; rintro e w ⟨rfl, hb⟩; replace hR := hR.call hb; clear hb) | (go_at_call 53; refine (x1 _).mono ?_; rintro e w ⟨rfl, hb⟩; replace hR := hR.call hb; clear hb))
          go_ret
          refine ⟨false, rfl, ⟨fun h => (by cases h), fun h => absurd h hno.out⟩, ?_⟩
          first | exact hR.drop1.drop1.drop1.drop1.drop1.drop1.drop1 | exact hR.drop1.drop1.drop1.drop1.drop1.drop1
      · have hok : okE t n := by
          have h3 : ¬ t ≤ n1 := fun h => by have := he3'.2 h; cases this
          have h4 : ¬ n ≤ t := fun h => by have := he4'.2 h; cases this
          exact ⟨by omega, by omega⟩
        have h3 : ¬ t ≤ n1 := fun h => by have := he3'.2 h; cases this
        rw [if_pos hok] at her hx
        subst her
        have hxn := he5'.1 rfl
        have hbg : n < F * F := by
          rw [hbig]
          rcases hcase with h | ⟨_, h⟩
          · refine .inl fun h' => ?_
            have := he1'.2 h'
            rw [h] at this; cases this
          · refine .inr ?_
            have : ¬ lo ≤ n := fun h' => by
              have := he2'.2 h'
              rw [h] at this; cases this
            omega
        have hgw : xCl (.node n t i p) ↔ ∀ j, j < i → gcdN (subN (powN t (ls / (p j).num) n) 1 n) n = n1 := by
          rw [hgi, hw, n11]
          exact ⟨fun h => h.2.2.2.2, fun h => ⟨hbg, by omega, hok.2, by rw [hx, hxn, n11], h⟩⟩
        have q1 : ∀ y, y < n → okM y n1 n := fun y hy => ⟨by omega, hy, by omega⟩
        replace hgw := Held.mk hgw
        replace q1 := Held.mk q1
        replace hok := Held.mk hok
        clear he1' he2' he3' he4' he5' hgi hw hbig hc' hct' hcn' hF hi hg hlo hhh ih hn hgb hQi hc hct hcn hx n11 h3 hxn hbg
        have hcd := hcase
        clear hcase
        repeat (first | (obtain ⟨x, tm', e, ht'⟩ := xAu ht; clear ht; subst e; have ht := ht'; clear ht') | (obtain ⟨tm', e, ht'⟩ := xAj ht; clear ht; subst e; have ht := ht'; clear ht'))
        obtain rfl := xAy ht
        clear ht
        go_upto_region 17 with (first | go_skip | (refine' xAb hR rfl rfl rfl ?_; clear hR; intro blk w hR) | (refine' xAa hR rfl rfl inferInstance ?_; clear hR; intro blk w hR) | (refine' aFq hR rfl rfl rfl inferInstance ?_) | (refine' aGq hR rfl rfl rfl inferInstance ?_) | (refine' aHq hR rfl rfl rfl inferInstance ?_) | (refine' aDq hR rfl rfl rfl inferInstance rfl ?_; clear hR; intro w hR) | (refine' aEq hR rfl rfl rfl inferInstance rfl rfl ?_; clear hR; intro w hR) | (refine' xAg hR rfl rfl rfl inferInstance ?hm ?hn ?_; (case hm => first | with_reducible assumption | repeat (first | exact .head _ | with_reducible assumption | apply mC)); (case hn => first | rfl | simp)) | (refine' xAc hR rfl rfl rfl inferInstance ?hm ?hv ?_; (case hm => first | with_reducible assumption | repeat (first | exact .head _ | with_reducible assumption | apply mC)); (case hv => first | rfl | with_reducible assumption)) | (go_at_call 132; refine (m2 _).mono ?_; rintro e w ⟨rfl, hb⟩; replace hR := hR.call hb; clear hb))
        rename_i K7 k7
        try simp only [Act.put, kA, kB, List.setIfInBounds_toArray]
        refine' cut_sameC hR (false :: false :: false :: false :: false :: false :: false :: false :: false :: false :: false :: false :: false :: false :: false :: false :: false :: false :: false :: false :: false :: false :: false :: false :: false :: false :: false :: false :: false :: false :: false :: false :: false :: false :: false :: false :: false :: false :: false :: false :: false :: false :: false :: false :: false :: false :: false :: false :: false :: false :: false :: false :: false :: false :: false :: false :: false :: false :: false :: false :: false :: false :: false :: false :: false :: false :: false :: false :: false :: false :: false :: false :: false :: false :: false :: false :: false :: false :: false :: false :: false :: false :: false :: false :: false :: false :: false :: false :: false :: false :: false :: false :: false :: false :: false :: false :: false :: false :: false :: false :: false :: false :: false :: false :: false :: false :: false :: false :: false :: false :: false :: true :: true :: true :: true :: true :: true :: true :: true :: true :: false :: false :: false :: false :: false :: false :: false :: false :: false :: false :: false :: false :: false :: false :: false :: false :: false :: false :: false :: false :: false :: false :: false :: false :: false :: false :: false :: false :: false :: false :: false :: false :: false :: false :: false :: false :: false :: false :: false :: false :: false :: false :: false :: false :: false :: false :: false :: false :: false :: false :: false :: false :: false :: false :: false :: false :: false :: false :: false :: false :: false :: false :: false :: false :: false :: false :: false :: false :: []) (fun l => l.set 120 (.bool false)) ?b1 ?b2
        case b1 =>
          intro Q' hQ'
          clear k7
          rcases hcd with rfl | ⟨rfl, rfl⟩
          all_goals
            go_wp2_with (first | go_skip | (refine' xAb hR rfl rfl rfl ?_; clear hR; intro blk w hR) | (refine' xAa hR rfl rfl inferInstance ?_; clear hR; intro blk w hR) | (refine' aFq hR rfl rfl rfl inferInstance ?_) | (refine' aGq hR rfl rfl rfl inferInstance ?_) | (refine' aHq hR rfl rfl rfl inferInstance ?_) | (refine' aDq hR rfl rfl rfl inferInstance rfl ?_; clear hR; intro w hR) | (refine' aEq hR rfl rfl rfl inferInstance rfl rfl ?_; clear hR; intro w hR) | (refine' xAg hR rfl rfl rfl inferInstance ?hm ?hn ?_; (case hm => first | with_reducible assumption | repeat (first | exact .head _ | with_reducible assumption | apply mC)); (case hn => first | rfl | simp)) | (refine' xAc hR rfl rfl rfl inferInstance ?hm ?hv ?_; (case hm => first | with_reducible assumption | repeat (first | exact .head _ | with_reducible assumption | apply mC)); (case hv => first | rfl | with_reducible assumption)) | (refine' xAz hR rfl rfl rfl inferInstance ?hm ?hv ?hn ?_; (case hm => first | with_reducible assumption | repeat (first | exact .head _ | with_reducible assumption | apply mC)); (case hv => first | with_reducible assumption | (simp only [kC, kD, kE, kF]; try rfl)); (case hn => first | rfl | simp)) | (go_at_call 50; refine (c2 _).mono ?_; rintro e w ⟨rfl, hb⟩; replace hR := hR.call hb; clear hb))
            exact hQ'.out _ _ (xBg rfl rfl rfl) hR
        case b2 =>
          clear hR hcd c2 m2
          intro tm w ht hR
          simp only [kA, kB] at ht
          repeat (first | (obtain ⟨x, tm', e, ht'⟩ := xAu ht; clear ht; subst e; have ht := ht'; clear ht') | (obtain ⟨tm', e, ht'⟩ := xAj ht; clear ht; subst e; have ht := ht'; clear ht'))
          obtain rfl := xAy ht
          clear ht
          simp only [Exit.then]
          refine k7 _ _ ?_
          clear k7
          go_wp2_with (first | go_skip | (refine' xAb hR rfl rfl rfl ?_; clear hR; intro blk w hR) | (refine' xAa hR rfl rfl inferInstance ?_; clear hR; intro blk w hR) | (refine' aFq hR rfl rfl rfl inferInstance ?_) | (refine' aGq hR rfl rfl rfl inferInstance ?_) | (refine' aHq hR rfl rfl rfl inferInstance ?_) | (refine' aDq hR rfl rfl rfl inferInstance rfl ?_; clear hR; intro w hR) | (refine' aEq hR rfl rfl rfl inferInstance rfl rfl ?_; clear hR; intro w hR) | (refine' xAg hR rfl rfl rfl inferInstance ?hm ?hn ?_; (case hm => first | with_reducible assumption | repeat (first | exact .head _ | with_reducible assumption | apply mC)); (case hn => first | rfl | simp)) | (refine' xAc hR rfl rfl rfl inferInstance ?hm ?hv ?_; (case hm => first | with_reducible assumption | repeat (first | exact .head _ | with_reducible assumption | apply mC)); (case hv => first | rfl | with_reducible assumption)) | (refine' xAz hR rfl rfl rfl inferInstance ?hm ?hv ?hn ?_; (case hm => first | with_reducible assumption | repeat (first | exact .head _ | with_reducible assumption | apply mC)); (case hv => first | with_reducible assumption | (simp only [kC, kD, kE, kF]; try rfl)); (case hn => first | rfl | simp)) | (go_at_call 50; refine (v1 _).mono ?_; rintro e w ⟨rfl, hb⟩; replace hR := hR.call hb; clear hb) | (go_at_call 50; refine (v2 _).mono ?_; rintro e w ⟨rfl, hb⟩; replace hR := hR.call hb; clear hb) | (go_at_call 53; refine (x1 _).mono ?_; rintro e w ⟨rfl, hb⟩; replace hR := hR.call hb; clear hb))
          try simp only [Act.put, kA, kB, List.setIfInBounds_toArray]
          refine' loop_whileC hR (false :: false :: false :: false :: false :: false :: false :: false :: false :: false :: false :: false :: false :: false :: false :: false :: false :: true :: true :: true :: true :: true :: false :: false :: false :: false :: false :: false :: false :: false :: false :: false :: false :: false :: false :: false :: false :: false :: false :: false :: false :: false :: false :: false :: false :: false :: false :: false :: false :: false :: false :: false :: false :: false :: false :: false :: false :: false :: false :: false :: false :: false :: false :: false :: false :: false :: false :: false :: false :: false :: false :: false :: false :: false :: false :: false :: false :: false :: false :: false :: false :: false :: false :: false :: false :: false :: false :: false :: false :: false :: false :: false :: false :: false :: false :: false :: false :: false :: false :: false :: false :: false :: false :: false :: false :: false :: false :: false :: false :: false :: false :: false :: false :: false :: false :: false :: false :: false :: false :: false :: false :: false :: false :: false :: false :: false :: false :: false :: false :: false :: false :: false :: false :: false :: false :: false :: false :: false :: false :: false :: false :: false :: false :: false :: false :: false :: true :: true :: true :: true :: true :: true :: true :: true :: true :: true :: true :: true :: true :: true :: true :: true :: true :: true :: true :: true :: true :: true :: true :: true :: true :: true :: true :: true :: true :: true :: true :: true :: true :: true :: true :: true :: true :: true :: true :: true :: true :: true :: []) (fun (j : Nat) l => l.set 16 (.int .i64 (j : Int))) (fun j => i - j) (fun j => j ≤ i ∧ ∀ q, q < j → gcdN (subN (powN t (ls / (p q).num) n) 1 n) n = n1) 0 ?g0 ?gO ?gs
          case g0 => exact xBg rfl rfl rfl
          case gO => exact ⟨Nat.zero_le _, fun j h => absurd h (Nat.not_lt_zero j)⟩
          case gs =>
            clear hR v1 v2 x1
            intro j tm w hO ht hR K hK
            obtain ⟨hj, hgj⟩ := hO
            have j0 : 0 ≤ (j : Int) := by omega
            by_cases hji : j = i
            · have t2 : ¬ (j : Int) < (i : Int) := by omega
              have t2' : decide ((j : Int) < (i : Int)) = false := decide_eq_false t2
              have hgd := hgw.out.2 (by rw [← hji]; exact hgj)
              replace hgd := Held.mk hgd
              clear hK hj hgj hji hgw q1 hok hmem hsub
              repeat (first | (obtain ⟨x, tm', e, ht'⟩ := xAu ht; clear ht; subst e; have ht := ht'; clear ht') | (obtain ⟨tm', e, ht'⟩ := xAj ht; clear ht; subst e; have ht := ht'; clear ht'))
              obtain rfl := xAy ht
              clear ht
              go_wp2_with (first | (refine' xAb hR rfl rfl rfl ?_; clear hR; intro blk w hR) | (refine' xAa hR rfl rfl inferInstance ?_; clear hR; intro blk w hR) | (refine' aFq hR rfl rfl rfl inferInstance ?_) | (refine' aGq hR rfl rfl rfl inferInstance ?_) | (refine' aHq hR rfl rfl rfl inferInstance ?_) | (refine' aDq hR rfl rfl rfl inferInstance rfl ?_; clear hR; intro w hR) | (refine' aEq hR rfl rfl rfl inferInstance rfl rfl ?_; clear hR; intro w hR) | fail)
              go_ret
              exact ⟨true, rfl, ⟨fun _ => hgd.out, fun _ => rfl⟩, hR.drop1.drop1.drop1.drop1.drop1.drop1.drop1⟩
            · have hji' : j < i := by omega
              have gi : (j : Int) < (i : Int) := by omega
              have gi' : decide ((j : Int) < (i : Int)) = true := decide_eq_true gi
              obtain ⟨bb, off, rfl, hmr⟩ := hmem.out (by omega)
              have hsj := hsub.out j hji'
              obtain ⟨tj, aj, kj, cj, hVj, hjB, htjB⟩ := hsj.row
              have rl : ∀ (L : List (Nat × Obj)) (w : World), Rep B0 w0 L w → w.rangeAt bb (off + j * 9) (V j) := fun L w hR => hmr w (hR.weaken (List.nil_sublist _)) j hji'
              rw [hVj] at rl
              obtain ⟨ni, hni⟩ : ∃ x, (p j).num = x := ⟨_, rfl⟩
              rw [hni] at rl hjB
              have r7 := fun (L : List (Nat × Obj)) (w : World) (hR : Rep B0 w0 L w) => num_load (rl L w hR)
              obtain ⟨dq, hdq⟩ : ∃ x, quo0 ls ni = x := ⟨_, rfl⟩
              obtain ⟨dr, hdr⟩ : ∃ x, rem0 ls ni = x := ⟨_, rfl⟩
              obtain ⟨de, hde⟩ : ∃ e : Int, (if ni = 0 then 1 else 0) = e := ⟨_, rfl⟩
              have d1 := rd_lit hlB hjB hdq hdr hde
              have dqB : dq < B := by rw [← hdq, xCn]; exact Nat.lt_of_le_of_lt (Nat.div_le_self _ _) hlB
              obtain ⟨y, hy⟩ : ∃ y, powN t dq n = y := ⟨_, rfl⟩
              have hyl : y < n := by rw [← hy, powN_def]; exact Nat.mod_lt _ (by have := hok.out.1; omega)
              have x2 := rexp_lit (e := 0) (r := y) htB dqB hB (by rw [if_pos hok.out, hy]) (if_pos hok.out)
              obtain ⟨z, hz⟩ : ∃ z, subN y n1 n = z := ⟨_, rfl⟩
              have hzl : z < n := by rw [← hz, subN_def]; exact Nat.mod_lt _ (by omega)
              have s1 := rsub_lit (e := 0) (r := z) (by omega : y < B) L1' hB (by rw [if_pos (q1.out y hyl), hz]) (if_pos (q1.out y hyl))
              obtain ⟨gc, hgc⟩ : ∃ x, gcdN z n = x := ⟨_, rfl⟩
              have c1 := rcom_lit (by omega : z < B) hB hgc
              have hz1 : subN y 1 n = z := by rw [← hz, hn1.out]
              have hkey : gcdN (subN (powN t (ls / (p j).num) n) 1 n) n = gc := by rw [hni, ← xCn, hdq, hy, hz1, hgc]
              have gB : gc < B := by rw [← hgc, gcdN_def]; exact gcd_lt_B (by omega) hB
              have ei : IntKind.i64.wrap ((j : Int) + 1) = (j : Int) + 1 := by rw [IntKind.wrap_i64]; unfold maxLen at hcm; omega
              have ek : ((j + 1 : Nat) : Int) = (j : Int) + 1 := by omega
              replace ek := Held.mk ek
              by_cases h1 : gc = n1
              · have eb2 : eqN gc n1 = true := xBw h1
                have hi1 : j + 1 ≤ i := by omega
                have hmu : i - (j + 1) < i - j := by omega
                have hg2 : ∀ q, q < j + 1 → gcdN (subN (powN t (ls / (p q).num) n) 1 n) n = n1 := fun q hq => by
                  by_cases hqj : q < j
                  · exact hgj q hqj
                  · obtain rfl : q = j := by omega
                    rw [hkey, h1]
                replace hi1 := Held.mk hi1
                replace hmu := Held.mk hmu
                replace hg2 := Held.mk hg2
                clear hj hgj hji hgw hmr hsj hVj rl hni hdq hdr hde hy hz hgc hz1 hkey h1 q1 hok hkc hcm hn1 hlB dqB hyl hzl gB hjB htjB hmem hsub hji'
                repeat (first | (obtain ⟨x, tm', e, ht'⟩ := xAu ht; clear ht; subst e; have ht := ht'; clear ht') | (obtain ⟨tm', e, ht'⟩ := xAj ht; clear ht; subst e; have ht := ht'; clear ht'))
                obtain rfl := xAy ht
                clear ht
                go_wp2_with (first | (refine' xAb hR rfl rfl rfl ?_; clear hR; intro blk w hR) | (refine' xAa hR rfl rfl inferInstance ?_; clear hR; intro blk w hR) | (refine' aFq hR rfl rfl rfl inferInstance ?_) | (refine' aGq hR rfl rfl rfl inferInstance ?_) | (refine' aHq hR rfl rfl rfl inferInstance ?_) | (refine' aDq hR rfl rfl rfl inferInstance rfl ?_; clear hR; intro w hR) | (refine' aEq hR rfl rfl rfl inferInstance rfl rfl ?_; clear hR; intro w hR) | fail)
                refine' wp_region_alloc2 hR [1, 1, 1, 1, 1, 1, 1, 1, 1, 1, 1, 1, 2, 2, 2, 2, 2] 12 13 17 18 _ _ _ _ [14, 15, 16] xBx (by kernel_rfl) rfl rfl rfl rfl rfl rfl rfl (by decide) (isAlloc rfl rfl ?z1) (isAlloc rfl rfl ?z2) ?_
                case z1 => exact inferInstance
                case z2 => exact inferInstance
                intro K hK
                clear hR
                repeat ((first | (refine' hd_loadKP rfl rfl rfl r7 ?ha ?_) | (refine xBl ?_) | (refine' xAt (by decide) rfl (.inl rfl) rfl ?ha ?_) | (refine' xAt (by decide) rfl (.inr rfl) rfl ?ha ?_) | (refine' xAr rfl rfl rfl inferInstance ?hm ?hn ?ha ?_; (case hm => first | with_reducible assumption | repeat (first | exact .head _ | with_reducible assumption | apply mC)); (case hn => first | rfl | simp)) | (refine' xAo rfl rfl rfl inferInstance ?hm ?hv ?hn ?ha ?_; (case hm => first | with_reducible assumption | repeat (first | exact .head _ | with_reducible assumption | apply mC)); (case hv => first | with_reducible assumption | (simp only [kC, kD, kE, kF]; try rfl)); (case hn => first | rfl | simp)) | (refine' xAi rfl rfl rfl inferInstance ?hm ?hv ?ha ?_; (case hm => first | with_reducible assumption | repeat (first | exact .head _ | with_reducible assumption | apply mC)); (case hv => first | rfl | with_reducible assumption)) | (refine' hd_keepAll rfl rfl rfl inferInstance ?hm ?hn ?ha ?_; (case hm => first | with_reducible assumption | repeat (first | exact .head _ | with_reducible assumption | apply mC)); (case hn => first | rfl | simp)) | (refine' xAv rfl rfl rfl inferInstance ?hm ?hv ?hn ?ha ?_; (case hm => first | with_reducible assumption | repeat (first | exact .head _ | with_reducible assumption | apply mC)); (case hv => first | with_reducible assumption | (simp only [kC, kD, kE, kF]; try rfl)); (case hn => first | rfl | simp)) | (refine' xAn rfl rfl rfl inferInstance ?hm ?hv ?ha ?_; (case hm => first | with_reducible assumption | repeat (first | exact .head _ | with_reducible assumption | apply mC)); (case hv => first | rfl | with_reducible assumption)) | ((first | refine' xAe (by decide) rfl rfl rfl rfl (fun w => ?hq) ?ha ?_ | refine' xBb (by decide) rfl rfl rfl rfl (fun w => ?hq) ?ha ?_ | refine' xAp (by decide) rfl rfl rfl (fun w => ?hq) ?ha ?_ | refine' xAd (by decide) rfl rfl rfl (fun w => ?hq) ?ha ?_ | refine' xAq (by decide) rfl rfl rfl (fun w => ?hq) ?ha ?_ | refine' xBa (by decide) rfl rfl rfl rfl (fun w => ?hq) ?ha ?_ | refine' xBf (by decide) rfl rfl rfl rfl rfl rfl (fun w => ?hq) ?ha ?_ | refine' xBd (by decide) rfl rfl (fun w => ?hq) ?ha ?_ | refine' xAw (by decide) rfl rfl rfl (fun w => ?hq) ?ha ?_ | refine' xBe (by decide) rfl rfl rfl (fun w => ?hq) ?ha ?_); (case hq => go_simp; try rfl)) | (refine' xAm (by decide) rfl rfl rfl ?ha ?_) | (refine' xBi (by decide) rfl rfl rfl rfl ?ha ?_) | (refine' xBk (by decide) rfl ?ha ?_) | (refine' hd_callI rfl rfl rfl (xBh Try.func60 (by kernel_rfl) (by kernel_rfl) _) (fun w => d1 w) ?ha ?_)); try (case ha => simp only [kP, kQ, kA, kB]; try rfl))
                try simp only [List.nil_append, List.cons_append]
                refine xBp (hK _ _ (fun _ _ => ?_))
                clear hK K
                refine xBo (fun Q hQ => ?_)
                simp only [kP, kQ, kA, kB]
                repeat ((first | refine' xAx rfl (.inl rfl) rfl ?hk ?ha ?_ | refine' xAx rfl (.inr rfl) rfl ?hk ?ha ?_ | (refine' xAl rfl rfl rfl inferInstance rfl ?hs rfl rfl ?hn ?hk ?ha ?_; (case hs => repeat (first | exact xAs.head | apply xAs.tail)); (case hn => first | rfl | simp)) | (refine' xAh rfl rfl rfl inferInstance rfl rfl ?hs ?hn ?hl ?hk ?ha ?_; (case hs => repeat (first | exact xAs.head | apply xAs.tail)); (case hn => first | exact oD rfl | (show _ < 4; with_reducible assumption) | (simp; try omega)); (case hl => first | with_reducible assumption | (simp only [nl, kA, kB]; first | done | rfl) | rfl)) | (refine' xAk rfl rfl rfl inferInstance rfl rfl ?hvn ?hs ?hn ?hl ?hk ?ha ?_; (case hvn => first | rfl | simp); (case hs => repeat (first | exact xAs.head | apply xAs.tail)); (case hn => first | exact oD rfl | (show _ < 4; with_reducible assumption) | (simp; try omega)); (case hl => first | with_reducible assumption | (simp only [nl, kA, kB]; first | done | rfl) | rfl)) | (refine' xBj rfl (fun w => ?hq) ?hk ?ha ?_; (case hq => go_simp; try rfl))); (case hk => intro p hp; repeat (first | exact hp | apply mT)); (case ha => simp only [kP, kQ, kA, kB]; try rfl))
                refine xBn (fun w hR => hQ _ _ ?_)
                clear hQ Q
                go_wp2_with (first | (refine' xAb hR rfl rfl rfl ?_; clear hR; intro blk w hR) | (refine' xAa hR rfl rfl inferInstance ?_; clear hR; intro blk w hR) | (refine' aFq hR rfl rfl rfl inferInstance ?_) | (refine' aGq hR rfl rfl rfl inferInstance ?_) | (refine' aHq hR rfl rfl rfl inferInstance ?_) | (refine' aDq hR rfl rfl rfl inferInstance rfl ?_; clear hR; intro w hR) | (refine' aEq hR rfl rfl rfl inferInstance rfl rfl ?_; clear hR; intro w hR) | (go_at_call 53; refine (x2 _).mono ?_; rintro e w ⟨rfl, hb⟩; replace hR := hR.call hb; clear hb) | (go_at_call 136; refine (s1 _).mono ?_; rintro e w ⟨rfl, hb⟩; replace hR := hR.call hb; clear hb))
                refine xAf hR [0, 0, 0, 0, 0, 0] [] xBx (by kernel_rfl) rfl rfl (fun K hK => ?_)
                clear hR
                repeat ((first | (refine xBl ?_) | (refine' xAt (by decide) rfl (.inl rfl) rfl ?ha ?_) | (refine' xAt (by decide) rfl (.inr rfl) rfl ?ha ?_) | (refine' xAr rfl rfl rfl inferInstance ?hm ?hn ?ha ?_; (case hm => first | with_reducible assumption | repeat (first | exact .head _ | with_reducible assumption | apply mC)); (case hn => first | rfl | simp)) | (refine' xAo rfl rfl rfl inferInstance ?hm ?hv ?hn ?ha ?_; (case hm => first | with_reducible assumption | repeat (first | exact .head _ | with_reducible assumption | apply mC)); (case hv => first | with_reducible assumption | (simp only [kC, kD, kE, kF]; try rfl)); (case hn => first | rfl | simp)) | (refine' xAi rfl rfl rfl inferInstance ?hm ?hv ?ha ?_; (case hm => first | with_reducible assumption | repeat (first | exact .head _ | with_reducible assumption | apply mC)); (case hv => first | rfl | with_reducible assumption)) | (refine' xAv rfl rfl rfl inferInstance ?hm ?hv ?hn ?ha ?_; (case hm => first | with_reducible assumption | repeat (first | exact .head _ | with_reducible assumption | apply mC)); (case hv => first | with_reducible assumption | (simp only [kC, kD, kE, kF]; try rfl)); (case hn => first | rfl | simp)) | (refine' xAn rfl rfl rfl inferInstance ?hm ?hv ?ha ?_; (case hm => first | with_reducible assumption | repeat (first | exact .head _ | with_reducible assumption | apply mC)); (case hv => first | rfl | with_reducible assumption)) | ((first | refine' xAe (by decide) rfl rfl rfl rfl (fun w => ?hq) ?ha ?_ | refine' xBb (by decide) rfl rfl rfl rfl (fun w => ?hq) ?ha ?_ | refine' xAp (by decide) rfl rfl rfl (fun w => ?hq) ?ha ?_ | refine' xAd (by decide) rfl rfl rfl (fun w => ?hq) ?ha ?_ | refine' xAq (by decide) rfl rfl rfl (fun w => ?hq) ?ha ?_ | refine' xBa (by decide) rfl rfl rfl rfl (fun w => ?hq) ?ha ?_ | refine' xBf (by decide) rfl rfl rfl rfl rfl rfl (fun w => ?hq) ?ha ?_ | refine' xBd (by decide) rfl rfl (fun w => ?hq) ?ha ?_ | refine' xAw (by decide) rfl rfl rfl (fun w => ?hq) ?ha ?_ | refine' xBe (by decide) rfl rfl rfl (fun w => ?hq) ?ha ?_); (case hq => go_simp; try rfl)) | (refine' xAm (by decide) rfl rfl rfl ?ha ?_) | (refine' xBi (by decide) rfl rfl rfl rfl ?ha ?_) | (refine' xBk (by decide) rfl ?ha ?_) | (refine' xBc rfl rfl rfl (xBh Try.func137 (by kernel_rfl) (by kernel_rfl) _) (fun w => c1 w) ?ha ?_)); try (case ha => simp only [kP, kQ, kA, kB]; try rfl))
                refine xBp (hK _ _ ?_)
                clear hK K
                refine xBo (fun Q hQ => ?_)
                try simp only [List.nil_append, List.cons_append]
                repeat ((first | refine' xAx rfl (.inl rfl) rfl ?hk ?ha ?_ | refine' xAx rfl (.inr rfl) rfl ?hk ?ha ?_ | (refine' xAl rfl rfl rfl inferInstance rfl ?hs rfl rfl ?hn ?hk ?ha ?_; (case hs => repeat (first | exact xAs.head | apply xAs.tail)); (case hn => first | rfl | simp)) | (refine' xAh rfl rfl rfl inferInstance rfl rfl ?hs ?hn ?hl ?hk ?ha ?_; (case hs => repeat (first | exact xAs.head | apply xAs.tail)); (case hn => first | exact oD rfl | (show _ < 4; with_reducible assumption) | (simp; try omega)); (case hl => first | with_reducible assumption | (simp only [nl, kA, kB]; first | done | rfl) | rfl)) | (refine' xAk rfl rfl rfl inferInstance rfl rfl ?hvn ?hs ?hn ?hl ?hk ?ha ?_; (case hvn => first | rfl | simp); (case hs => repeat (first | exact xAs.head | apply xAs.tail)); (case hn => first | exact oD rfl | (show _ < 4; with_reducible assumption) | (simp; try omega)); (case hl => first | with_reducible assumption | (simp only [nl, kA, kB]; first | done | rfl) | rfl)) | (refine' xBj rfl (fun w => ?hq) ?hk ?ha ?_; (case hq => go_simp; try rfl))); (case hk => intro p hp; first | exact absurd hp List.not_mem_nil | (obtain rfl := List.mem_singleton.1 hp; repeat (first | exact List.Mem.head _ | with_reducible assumption | apply mC))); (case ha => simp only [kP, kQ, kA, kB]; try rfl))
                refine xBn (fun w hR => hQ _ _ ?_)
                clear hQ Q
                go_wp2_with (first | (refine' xAb hR rfl rfl rfl ?_; clear hR; intro blk w hR) | (refine' xAa hR rfl rfl inferInstance ?_; clear hR; intro blk w hR) | (refine' aFq hR rfl rfl rfl inferInstance ?_) | (refine' aGq hR rfl rfl rfl inferInstance ?_) | (refine' aHq hR rfl rfl rfl inferInstance ?_) | (refine' aDq hR rfl rfl rfl inferInstance rfl ?_; clear hR; intro w hR) | (refine' aEq hR rfl rfl rfl inferInstance rfl rfl ?_; clear hR; intro w hR) | fail)
                exact hK.out (j + 1) _ _ ⟨hi1.out, hg2.out⟩ hmu.out (by simp only [ek.out]; exact xBg rfl rfl rfl) hR.drop1.drop1.drop1
              · have eb2 : eqN gc n1 = false := xBz gB L1' h1
                have hno : ¬ xCl (.node n t i p) := fun h => by
                  have := hgw.out.1 h j hji'
                  rw [hkey] at this
                  exact h1 this
                replace hno := Held.mk hno
                clear hj hgj hji hgw hmr hsj hVj rl hni hdq hdr hde hy hz hgc hz1 hkey h1 q1 hok hkc hcm hn1 hlB dqB hyl hzl gB hjB htjB hmem hsub hji' hK
                repeat (first | (obtain ⟨x, tm', e, ht'⟩ := xAu ht; clear ht; subst e; have ht := ht'; clear ht') | (obtain ⟨tm', e, ht'⟩ := xAj ht; clear ht; subst e; have ht := ht'; clear ht'))
                obtain rfl := xAy ht
                clear ht
                go_wp2_with (first | (refine' xAb hR rfl rfl rfl ?_; clear hR; intro blk w hR) | (refine' xAa hR rfl rfl inferInstance ?_; clear hR; intro blk w hR) | (refine' aFq hR rfl rfl rfl inferInstance ?_) | (refine' aGq hR rfl rfl rfl inferInstance ?_) | (refine' aHq hR rfl rfl rfl inferInstance ?_) | (refine' aDq hR rfl rfl rfl inferInstance rfl ?_; clear hR; intro w hR) | (refine' aEq hR rfl rfl rfl inferInstance rfl rfl ?_; clear hR; intro w hR) | fail)
                refine' wp_region_alloc2 hR [1, 1, 1, 1, 1, 1, 1, 1, 1, 1, 1, 1, 2, 2, 2, 2, 2] 12 13 17 18 _ _ _ _ [14, 15, 16] xBx (by kernel_rfl) rfl rfl rfl rfl rfl rfl rfl (by decide) (isAlloc rfl rfl ?z1) (isAlloc rfl rfl ?z2) ?_
                case z1 => exact inferInstance
                case z2 => exact inferInstance
                intro K hK
                clear hR
                repeat ((first | (refine' hd_loadKP rfl rfl rfl r7 ?ha ?_) | (refine xBl ?_) | (refine' xAt (by decide) rfl (.inl rfl) rfl ?ha ?_) | (refine' xAt (by decide) rfl (.inr rfl) rfl ?ha ?_) | (refine' xAr rfl rfl rfl inferInstance ?hm ?hn ?ha ?_; (case hm => first | with_reducible assumption | repeat (first | exact .head _ | with_reducible assumption | apply mC)); (case hn => first | rfl | simp)) | (refine' xAo rfl rfl rfl inferInstance ?hm ?hv ?hn ?ha ?_; (case hm => first | with_reducible assumption | repeat (first | exact .head _ | with_reducible assumption | apply mC)); (case hv => first | with_reducible assumption | (simp only [kC, kD, kE, kF]; try rfl)); (case hn => first | rfl | simp)) | (refine' xAi rfl rfl rfl inferInstance ?hm ?hv ?ha ?_; (case hm => first | with_reducible assumption | repeat (first | exact .head _ | with_reducible assumption | apply mC)); (case hv => first | rfl | with_reducible assumption)) | (refine' hd_keepAll rfl rfl rfl inferInstance ?hm ?hn ?ha ?_; (case hm => first | with_reducible assumption | repeat (first | exact .head _ | with_reducible assumption | apply mC)); (case hn => first | rfl | simp)) | (refine' xAv rfl rfl rfl inferInstance ?hm ?hv ?hn ?ha ?_; (case hm => first | with_reducible assumption | repeat (first | exact .head _ | with_reducible assumption | apply mC)); (case hv => first | with_reducible assumption | (simp only [kC, kD, kE, kF]; try rfl)); (case hn => first | rfl | simp)) | (refine' xAn rfl rfl rfl inferInstance ?hm ?hv ?ha ?_; (case hm => first | with_reducible assumption | repeat (first | exact .head _ | with_reducible assumption | apply mC)); (case hv => first | rfl | with_reducible assumption)) | ((first | refine' xAe (by decide) rfl rfl rfl rfl (fun w => ?hq) ?ha ?_ | refine' xBb (by decide) rfl rfl rfl rfl (fun w => ?hq) ?ha ?_ | refine' xAp (by decide) rfl rfl rfl (fun w => ?hq) ?ha ?_ | refine' xAd (by decide) rfl rfl rfl (fun w => ?hq) ?ha ?_ | refine' xAq (by decide) rfl rfl rfl (fun w => ?hq) ?ha ?_ | refine' xBa (by decide) rfl rfl rfl rfl (fun w => ?hq) ?ha ?_ | refine' xBf (by decide) rfl rfl rfl rfl rfl rfl (fun w => ?hq) ?ha ?_ | refine' xBd (by decide) rfl rfl (fun w => ?hq) ?ha ?_ | refine' xAw (by decide) rfl rfl rfl (fun w => ?hq) ?ha ?_ | refine' xBe (by decide) rfl rfl rfl (fun w => ?hq) ?ha ?_); (case hq => go_simp; try rfl)) | (refine' xAm (by decide) rfl rfl rfl ?ha ?_) | (refine' xBi (by decide) rfl rfl rfl rfl ?ha ?_) | (refine' xBk (by decide) rfl ?ha ?_) | (refine' hd_callI rfl rfl rfl (xBh Try.func60 (by kernel_rfl) (by kernel_rfl) _) (fun w => d1 w) ?ha ?_)); try (case ha => simp only [kP, kQ, kA, kB]; try rfl))
                try simp only [List.nil_append, List.cons_append]
                refine xBp (hK _ _ (fun _ _ => ?_))
                clear hK K
                refine xBo (fun Q hQ => ?_)
                simp only [kP, kQ, kA, kB]
                repeat ((first | refine' xAx rfl (.inl rfl) rfl ?hk ?ha ?_ | refine' xAx rfl (.inr rfl) rfl ?hk ?ha ?_ | (refine' xAl rfl rfl rfl inferInstance rfl ?hs rfl rfl ?hn ?hk ?ha ?_; (case hs => repeat (first | exact xAs.head | apply xAs.tail)); (case hn => first | rfl | simp)) | (refine' xAh rfl rfl rfl inferInstance rfl rfl ?hs ?hn ?hl ?hk ?ha ?_; (case hs => repeat (first | exact xAs.head | apply xAs.tail)); (case hn => first | exact oD rfl | (show _ < 4; with_reducible assumption) | (simp; try omega)); (case hl => first | with_reducible assumption | (simp only [nl, kA, kB]; first | done | rfl) | rfl)) | (refine' xAk rfl rfl rfl inferInstance rfl rfl ?hvn ?hs ?hn ?hl ?hk ?ha ?_; (case hvn => first | rfl | simp); (case hs => repeat (first | exact xAs.head | apply xAs.tail)); (case hn => first | exact oD rfl | (show _ < 4; with_reducible assumption) | (simp; try omega)); (case hl => first | with_reducible assumption | (simp only [nl, kA, kB]; first | done | rfl) | rfl)) | (refine' xBj rfl (fun w => ?hq) ?hk ?ha ?_; (case hq => go_simp; try rfl))); (case hk => intro p hp; repeat (first | exact hp | apply mT)); (case ha => simp only [kP, kQ, kA, kB]; try rfl))
                refine xBn (fun w hR => hQ _ _ ?_)
                clear hQ Q
                go_wp2_with (first | (refine' xAb hR rfl rfl rfl ?_; clear hR; intro blk w hR) | (refine' xAa hR rfl rfl inferInstance ?_; clear hR; intro blk w hR) | (refine' aFq hR rfl rfl rfl inferInstance ?_) | (refine' aGq hR rfl rfl rfl inferInstance ?_) | (refine' aHq hR rfl rfl rfl inferInstance ?_) | (refine' aDq hR rfl rfl rfl inferInstance rfl ?_; clear hR; intro w hR) | (refine' aEq hR rfl rfl rfl inferInstance rfl rfl ?_; clear hR; intro w hR) | (go_at_call 53; refine (x2 _).mono ?_; rintro e w ⟨rfl, hb⟩; replace hR := hR.call hb; clear hb) | (go_at_call 136; refine (s1 _).mono ?_; rintro e w ⟨rfl, hb⟩; replace hR := hR.call hb; clear hb))
                refine xAf hR [0, 0, 0, 0, 0, 0] [] xBx (by kernel_rfl) rfl rfl (fun K hK => ?_)
                clear hR
                repeat ((first | (refine xBl ?_) | (refine' xAt (by decide) rfl (.inl rfl) rfl ?ha ?_) | (refine' xAt (by decide) rfl (.inr rfl) rfl ?ha ?_) | (refine' xAr rfl rfl rfl inferInstance ?hm ?hn ?ha ?_; (case hm => first | with_reducible assumption | repeat (first | exact .head _ | with_reducible assumption | apply mC)); (case hn => first | rfl | simp)) | (refine' xAo rfl rfl rfl inferInstance ?hm ?hv ?hn ?ha ?_; (case hm => first | with_reducible assumption | repeat (first | exact .head _ | with_reducible assumption | apply mC)); (case hv => first | with_reducible assumption | (simp only [kC, kD, kE, kF]; try rfl)); (case hn => first | rfl | simp)) | (refine' xAi rfl rfl rfl inferInstance ?hm ?hv ?ha ?_; (case hm => first | with_reducible assumption | repeat (first | exact .head _ | with_reducible assumption | apply mC)); (case hv => first | rfl | with_reducible assumption)) | (refine' xAv rfl rfl rfl inferInstance ?hm ?hv ?hn ?ha ?_; (case hm => first | with_reducible assumption | repeat (first | exact .head _ | with_reducible assumption | apply mC)); (case hv => first | with_reducible assumption | (simp only [kC, kD, kE, kF]; try rfl)); (case hn => first | rfl | simp)) | (refine' xAn rfl rfl rfl inferInstance ?hm ?hv ?ha ?_; (case hm => first | with_reducible assumption | repeat (first | exact .head _ | with_reducible assumption | apply mC)); (case hv => first | rfl | with_reducible assumption)) | ((first | refine' xAe (by decide) rfl rfl rfl rfl (fun w => ?hq) ?ha ?_ | refine' xBb (by decide) rfl rfl rfl rfl (fun w => ?hq) ?ha ?_ | refine' xAp (by decide) rfl rfl rfl (fun w => ?hq) ?ha ?_ | refine' xAd (by decide) rfl rfl rfl (fun w => ?hq) ?ha ?_ | refine' xAq (by decide) rfl rfl rfl (fun w => ?hq) ?ha ?_ | refine' xBa (by decide) rfl rfl rfl rfl (fun w => ?hq) ?ha ?_ | refine' xBf (by decide) rfl rfl rfl rfl rfl rfl (fun w => ?hq) ?ha ?_ | refine' xBd (by decide) rfl rfl (fun w => ?hq) ?ha ?_ | refine' xAw (by decide) rfl rfl rfl (fun w => ?hq) ?ha ?_ | refine' xBe (by decide) rfl rfl rfl (fun w => ?hq) ?ha ?_); (case hq => go_simp; try rfl)) | (refine' xAm (by decide) rfl rfl rfl ?ha ?_) | (refine' xBi (by decide) rfl rfl rfl rfl ?ha ?_) | (refine' xBk (by decide) rfl ?ha ?_) | (refine' xBc rfl rfl rfl (xBh Try.func137 (by kernel_rfl) (by kernel_rfl) _) (fun w => c1 w) ?ha ?_)); try (case ha => simp only [kP, kQ, kA, kB]; try rfl))
                refine xBp (hK _ _ ?_)
                clear hK K
                refine xBo (fun Q hQ => ?_)
                try simp only [List.nil_append, List.cons_append]
                repeat ((first | refine' xAx rfl (.inl rfl) rfl ?hk ?ha ?_ | refine' xAx rfl (.inr rfl) rfl ?hk ?ha ?_ | (refine' xAl rfl rfl rfl inferInstance rfl ?hs rfl rfl ?hn ?hk ?ha ?_; (case hs => repeat (first | exact xAs.head | apply xAs.tail)); (case hn => first | rfl | simp)) | (refine' xAh rfl rfl rfl inferInstance rfl rfl ?hs ?hn ?hl ?hk ?ha ?_; (case hs => repeat (first | exact xAs.head | apply xAs.tail)); (case hn => first | exact oD rfl | (show _ < 4; with_reducible assumption) | (simp; try omega)); (case hl => first | with_reducible assumption | (simp only [nl, kA, kB]; first | done | rfl) | rfl)) | (refine' xAk rfl rfl rfl inferInstance rfl rfl ?hvn ?hs ?hn ?hl ?hk ?ha ?_; (case hvn => first | rfl | simp); (case hs => repeat (first | exact xAs.head | apply xAs.tail)); (case hn => first | exact oD rfl | (show _ < 4; with_reducible assumption) | (simp; try omega)); (case hl => first | with_reducible assumption | (simp only [nl, kA, kB]; first | done | rfl) | rfl)) | (refine' xBj rfl (fun w => ?hq) ?hk ?ha ?_; (case hq => go_simp; try rfl))); (case hk => intro p hp; first | exact absurd hp List.not_mem_nil | (obtain rfl := List.mem_singleton.1 hp; repeat (first | exact List.Mem.head _ | with_reducible assumption | apply mC))); (case ha => simp only [kP, kQ, kA, kB]; try rfl))
                refine xBn (fun w hR => hQ _ _ ?_)
                clear hQ Q
                go_wp2_with (first | (refine' xAb hR rfl rfl rfl ?_; clear hR; intro blk w hR) | (refine' xAa hR rfl rfl inferInstance ?_; clear hR; intro blk w hR) | (refine' aFq hR rfl rfl rfl inferInstance ?_) | (refine' aGq hR rfl rfl rfl inferInstance ?_) | (refine' aHq hR rfl rfl rfl inferInstance ?_) | (refine' aDq hR rfl rfl rfl inferInstance rfl ?_; clear hR; intro w hR) | (refine' aEq hR rfl rfl rfl inferInstance rfl rfl ?_; clear hR; intro w hR) | fail)
                go_ret
                exact ⟨false, rfl, ⟨fun h => (by cases h), fun h => absurd h hno.out⟩, hR.drop1.drop1.drop1.drop1.drop1.drop1.drop1.drop1.drop1.drop1⟩
    · have hik' : i < k := by omega
      have gi : (i : Int) < (k : Int) := by omega
      have gi' : decide ((i : Int) < (k : Int)) = true := decide_eq_true gi
      obtain ⟨bb, off, rfl, hmr⟩ := hmem.out (by omega)
      have hsi := hsub.out i hik'
      obtain ⟨ti, ai, ki, ci, hVi, hiB, htiB⟩ := hsi.row
      have rl : ∀ (L : List (Nat × Obj)) (w : World), Rep B0 w0 L w → w.rangeAt bb (off + i * 9) (V i) := fun L w hR => hmr w (hR.weaken (List.nil_sublist _)) i hik'
      rw [hVi] at rl hsi
      have hgood : xCl (.node n t k p) → xCl (p i) ∧ (i = 0 ∨ (p (i - 1)).num < (p i).num) ∧ mostN (p i).num ls ≠ 1 := fun h => (hgb.out.1 h).1 i hik'
      have hpr := good_pr (p i)
      have hfs : facB Q (i + 1) = facB Q i * Q i % B := rfl
      have hQQ := hQi.out i
      have hg2 : xCl (p i) ∧ (i = 0 ∨ (p (i - 1)).num < (p i).num) ∧ mostN (p i).num ls ≠ 1 → ∀ j, j < i + 1 → xCl (p j) ∧ (j = 0 ∨ (p (j - 1)).num < (p j).num) ∧ mostN (p j).num ls ≠ 1 := fun h j hj => by
        by_cases hji : j < i
        · exact hg j hji
        · obtain rfl : j = i := by omega
          exact h
      obtain ⟨fi, hfi⟩ : ∃ x, facB Q i = x := ⟨_, rfl⟩
      rw [hfi] at hR fB hfs
      obtain ⟨ni, hni⟩ : ∃ x, (p i).num = x := ⟨_, rfl⟩
      rw [hni] at rl hsi hiB hpr hQQ
      simp only [hni] at hgood hg2
      have ihi := fun (L : List (Nat × Obj)) (w : World) (hR : Rep B0 w0 L w) => ih.out i hsi hR
      have r7 := fun (L : List (Nat × Obj)) (w : World) (hR : Rep B0 w0 L w) => num_load (rl L w hR)
      have r9 := fun (L : List (Nat × Obj)) (w : World) (hR : Rep B0 w0 L w) => reason_load (rl L w hR) rfl
      have r7w := r7 _ w hR
      -- the number ahead
      have hprev : (i = 0 ∧ decide (0 < i) = false ∧ decide (0 < (i : Int)) = false) ∨ (∃ j nj, i = j + 1 ∧ decide (0 < i) = true ∧ decide (0 < (i : Int)) = true ∧ (p (i - 1)).num = nj ∧ nj < B ∧ IntKind.i64.wrap ((i : Int) - 1) = (j : Int) ∧ 0 ≤ (j : Int) ∧ (j : Int) < (k : Int) ∧ ∀ (L : List (Nat × Obj)) (w : World), Rep B0 w0 L w → (loadVar 24 ⟨bb, off + j * 9, none⟩).run Try.prog w = .ok (num nj) w) := by
        by_cases h0 : i = 0
        · exact .inl ⟨h0, decide_eq_false (by omega), decide_eq_false (by omega)⟩
        · obtain ⟨j, hj⟩ : ∃ j, i = j + 1 := ⟨i - 1, by omega⟩
          have hsj := hsub.out j (by omega)
          obtain ⟨tj, aj, kj, cj, hVj, hjB, htjB⟩ := hsj.row
          refine .inr ⟨j, (p j).num, hj, decide_eq_true (by omega), decide_eq_true (by omega), by rw [hj, Nat.add_sub_cancel], hjB, by rw [IntKind.wrap_i64]; unfold maxLen at hcm; omega, by omega, by omega, fun L w hR => num_load (n := (p j).num) (t := tj) (v := .slice aj kj cj) (hVj ▸ hmr w (hR.weaken (List.nil_sublist _)) j (by omega))⟩
      have ei : IntKind.i64.wrap ((i : Int) + 1) = (i : Int) + 1 := by rw [IntKind.wrap_i64]; unfold maxLen at hcm; omega
      have ek : ((i + 1 : Nat) : Int) = (i : Int) + 1 := by omega
      have hi1 : i + 1 ≤ k := by omega
      have hmu : k - (i + 1) < k - i := by omega
      replace ek := Held.mk ek
      replace hi1 := Held.mk hi1
      replace hmu := Held.mk hmu
      replace hprev := Held.mk hprev
      replace hgood := Held.mk hgood
      replace hg2 := Held.mk hg2
      replace hpr := Held.mk hpr
      clear hmr hsi hVi rl ih hmem hsub hgb hQi hg hi hik hik' hkc hcm
      by_cases hP : xCl (p i) ∧ (i = 0 ∨ (p (i - 1)).num < ni)
      case neg =>
        have hno : ¬ xCl (.node n t k p) := fun h => hP ⟨(hgood.out h).1, (hgood.out h).2.1⟩
        replace hno := Held.mk hno
        replace hP := Held.mk hP
        clear hgood hg2 hpr hK hfs hQQ ek hi1 hmu
        repeat (first | (obtain ⟨x, tm', e, ht'⟩ := xAu ht; clear ht; subst e; have ht := ht'; clear ht') | (obtain ⟨tm', e, ht'⟩ := xAj ht; clear ht; subst e; have ht := ht'; clear ht'))
        obtain rfl := xAy ht
        clear ht
        go_upto_region 10 with (first | go_skip | (refine' xAb hR rfl rfl rfl ?_; clear hR; intro blk w hR) | (refine' xAa hR rfl rfl inferInstance ?_; clear hR; intro blk w hR) | (refine' aFq hR rfl rfl rfl inferInstance ?_) | (refine' aGq hR rfl rfl rfl inferInstance ?_) | (refine' aHq hR rfl rfl rfl inferInstance ?_) | (refine' aDq hR rfl rfl rfl inferInstance rfl ?_; clear hR; intro w hR) | (refine' aEq hR rfl rfl rfl inferInstance rfl rfl ?_; clear hR; intro w hR) | (refine' xAg hR rfl rfl rfl inferInstance ?hm ?hn ?_; (case hm => first | with_reducible assumption | repeat (first | exact .head _ | with_reducible assumption | apply mC)); (case hn => first | rfl | simp)) | (refine' xAc hR rfl rfl rfl inferInstance ?hm ?hv ?_; (case hm => first | with_reducible assumption | repeat (first | exact .head _ | with_reducible assumption | apply mC)); (case hv => first | rfl | with_reducible assumption)) | (refine' xBs rfl rfl rfl r7w ?_))
        clear r7w
        rename_i K5 k5
        try simp only [Act.put, kA, kB, List.setIfInBounds_toArray]
        refine' cut_sameC hR (false :: false :: false :: false :: false :: false :: false :: false :: false :: false :: false :: false :: false :: false :: false :: false :: false :: false :: false :: false :: false :: false :: false :: false :: false :: false :: false :: false :: false :: false :: false :: false :: false :: false :: false :: false :: false :: false :: false :: false :: false :: false :: false :: false :: false :: false :: false :: false :: false :: false :: false :: false :: false :: false :: false :: false :: false :: false :: false :: false :: false :: false :: false :: false :: true :: true :: true :: true :: true :: true :: true :: true :: true :: true :: true :: true :: true :: true :: true :: true :: true :: true :: true :: true :: true :: true :: false :: false :: false :: false :: false :: false :: false :: false :: false :: false :: false :: false :: false :: false :: false :: false :: false :: false :: false :: false :: false :: false :: false :: false :: false :: false :: false :: false :: false :: false :: false :: false :: false :: false :: false :: false :: false :: false :: false :: false :: false :: false :: false :: false :: false :: false :: false :: false :: false :: false :: false :: false :: false :: false :: false :: false :: false :: false :: false :: false :: false :: false :: false :: false :: false :: false :: false :: false :: false :: false :: false :: false :: false :: false :: false :: false :: false :: false :: false :: false :: false :: false :: false :: false :: false :: false :: false :: false :: false :: false :: false :: false :: false :: false :: false :: false :: false :: false :: false :: false :: false :: false :: []) (fun l => l.set 86 (.bool true)) ?c1 ?c2
        case c1 =>
          intro Q' hQ'
          clear k5 hno
          rcases hprev.out with ⟨h0, g2, g3⟩ | ⟨j, nj, h0, g2, g3, hnj, hjB, ej, j0, j1, u7⟩
          · have hb : ¬ xCl (p i) := fun h => hP.out ⟨h, .inl h0⟩
            have ch : ∀ (L : List (Nat × Obj)) (w : World), Rep B0 w0 L w → Calls Try.prog 101 #[.agg (rrow ni ti (.slice ai ki ci)).toArray] w fun e w' => e = .returned (.bool false) ∧ Rep B0 w0 L w' := fun L w hR => (ihi L w hR).mono fun e w' ⟨b, he, h1, hR⟩ => by
              have hbb : b = false := by
                cases b
                · rfl
                · exact absurd (h1.1 rfl) hb
              rw [hbb] at he
              exact ⟨he, hR⟩
            have g3' : ¬ 0 < (i : Int) := of_decide_eq_false g3
            have g2' : ¬ 0 < i := of_decide_eq_false g2
            clear h0 hb ihi hprev hP
            refine xAf hR [0, 0, 0, 0, 0, 0, 0, 0, 0, 0, 0, 0, 0, 0, 0, 0, 0, 0, 0, 0, 0, 0, 0] [] xBx (by kernel_rfl) rfl rfl (fun K hK => ?_)
            clear hR
            repeat ((first | (refine' hd_loadP rfl rfl rfl r9 ?ha ?_) | (refine xBl ?_) | (refine' xAt (by decide) rfl (.inl rfl) rfl ?ha ?_) | (refine' xAt (by decide) rfl (.inr rfl) rfl ?ha ?_) | (refine' xAr rfl rfl rfl inferInstance ?hm ?hn ?ha ?_; (case hm => first | with_reducible assumption | repeat (first | exact .head _ | with_reducible assumption | apply mC)); (case hn => first | rfl | simp)) | (refine' xAo rfl rfl rfl inferInstance ?hm ?hv ?hn ?ha ?_; (case hm => first | with_reducible assumption | repeat (first | exact .head _ | with_reducible assumption | apply mC)); (case hv => first | with_reducible assumption | (simp only [kC, kD, kE, kF]; try rfl)); (case hn => first | rfl | simp)) | (refine' xAi rfl rfl rfl inferInstance ?hm ?hv ?ha ?_; (case hm => first | with_reducible assumption | repeat (first | exact .head _ | with_reducible assumption | apply mC)); (case hv => first | rfl | with_reducible assumption)) | (refine' xAv rfl rfl rfl inferInstance ?hm ?hv ?hn ?ha ?_; (case hm => first | with_reducible assumption | repeat (first | exact .head _ | with_reducible assumption | apply mC)); (case hv => first | with_reducible assumption | (simp only [kC, kD, kE, kF]; try rfl)); (case hn => first | rfl | simp)) | (refine' xAn rfl rfl rfl inferInstance ?hm ?hv ?ha ?_; (case hm => first | with_reducible assumption | repeat (first | exact .head _ | with_reducible assumption | apply mC)); (case hv => first | rfl | with_reducible assumption)) | ((first | refine' xAe (by decide) rfl rfl rfl rfl (fun w => ?hq) ?ha ?_ | refine' xBb (by decide) rfl rfl rfl rfl (fun w => ?hq) ?ha ?_ | refine' xAp (by decide) rfl rfl rfl (fun w => ?hq) ?ha ?_ | refine' xAd (by decide) rfl rfl rfl (fun w => ?hq) ?ha ?_ | refine' xAq (by decide) rfl rfl rfl (fun w => ?hq) ?ha ?_ | refine' xBa (by decide) rfl rfl rfl rfl (fun w => ?hq) ?ha ?_ | refine' xBf (by decide) rfl rfl rfl rfl rfl rfl (fun w => ?hq) ?ha ?_ | refine' xBd (by decide) rfl rfl (fun w => ?hq) ?ha ?_ | refine' xAw (by decide) rfl rfl rfl (fun w => ?hq) ?ha ?_ | refine' xBe (by decide) rfl rfl rfl (fun w => ?hq) ?ha ?_); (case hq => go_simp; try rfl)) | (refine' xAm (by decide) rfl rfl rfl ?ha ?_) | (refine' xBi (by decide) rfl rfl rfl rfl ?ha ?_) | (refine' xBk (by decide) rfl ?ha ?_) | (refine' xCg rfl rfl rfl (xBh Try.func101 (by kernel_rfl) (by kernel_rfl) _) (fun w hw => ch _ w hw) ?ha ?_) | (refine' xCq (by decide) rfl rfl rfl (fun w => ?hq) ?ha ?_; (case hq => go_simp; try rfl))); try (case ha => simp only [kP, kQ, kA, kB]; try rfl))
            refine xBp (hK _ _ ?_)
            clear hK K
            refine xBo (fun Q hQ => ?_)
            try simp only [List.nil_append, List.cons_append]
            repeat ((first | refine' xAx rfl (.inl rfl) rfl ?hk ?ha ?_ | refine' xAx rfl (.inr rfl) rfl ?hk ?ha ?_ | (refine' xAl rfl rfl rfl inferInstance rfl ?hs rfl rfl ?hn ?hk ?ha ?_; (case hs => repeat (first | exact xAs.head | apply xAs.tail)); (case hn => first | rfl | simp)) | (refine' xAh rfl rfl rfl inferInstance rfl rfl ?hs ?hn ?hl ?hk ?ha ?_; (case hs => repeat (first | exact xAs.head | apply xAs.tail)); (case hn => first | exact oD rfl | (show _ < 4; with_reducible assumption) | (simp; try omega)); (case hl => first | with_reducible assumption | (simp only [nl, kA, kB]; first | done | rfl) | rfl)) | (refine' xAk rfl rfl rfl inferInstance rfl rfl ?hvn ?hs ?hn ?hl ?hk ?ha ?_; (case hvn => first | rfl | simp); (case hs => repeat (first | exact xAs.head | apply xAs.tail)); (case hn => first | exact oD rfl | (show _ < 4; with_reducible assumption) | (simp; try omega)); (case hl => first | with_reducible assumption | (simp only [nl, kA, kB]; first | done | rfl) | rfl)) | (refine' xBj rfl (fun w => ?hq) ?hk ?ha ?_; (case hq => go_simp; try rfl))); (case hk => intro p hp; first | exact absurd hp List.not_mem_nil | (obtain rfl := List.mem_singleton.1 hp; repeat (first | exact List.Mem.head _ | with_reducible assumption | apply mC))); (case ha => simp only [kP, kQ, kA, kB]; try rfl))
            refine xBn (fun w hR => hQ _ _ ?_)
            clear hQ Q
            try go_wp2_with (first | (refine' xAb hR rfl rfl rfl ?_; clear hR; intro blk w hR) | (refine' xAa hR rfl rfl inferInstance ?_; clear hR; intro blk w hR) | (refine' aFq hR rfl rfl rfl inferInstance ?_) | (refine' aGq hR rfl rfl rfl inferInstance ?_) | (refine' aHq hR rfl rfl rfl inferInstance ?_) | (refine' aDq hR rfl rfl rfl inferInstance rfl ?_; clear hR; intro w hR) | (refine' aEq hR rfl rfl rfl inferInstance rfl rfl ?_; clear hR; intro w hR) | fail)
            exact hQ'.out _ _ (xBg rfl rfl rfl) hR
          · have g3' : 0 < (i : Int) := oD g3
            have g2' : 0 < i := oD g2
            obtain ⟨c, hc⟩ : ∃ c, cmpN nj ni = c := ⟨_, rfl⟩
            have m1 := rc_lit hjB hiB hc
            have hc' : 0 ≤ c ↔ ni ≤ nj := by rw [← hc, cmpN_ge]
            by_cases hlt : ni ≤ nj
            · have c1 : decide (0 ≤ c) = true := decide_eq_true (hc'.2 hlt)
              have c1' : 0 ≤ c := oD c1
              clear h0 hlt hc' hc ihi hprev hP hnj
              refine xAf hR [0, 0, 0, 0, 0, 0, 0, 0, 0, 0, 0, 0, 0, 0, 0, 0, 0, 0, 0, 0, 0, 0, 0] [] xBx (by kernel_rfl) rfl rfl (fun K hK => ?_)
              clear hR
              repeat ((first | (refine' hd_loadP rfl rfl rfl u7 ?ha ?_) | (refine xBl ?_) | (refine' xAt (by decide) rfl (.inl rfl) rfl ?ha ?_) | (refine' xAt (by decide) rfl (.inr rfl) rfl ?ha ?_) | (refine' xAr rfl rfl rfl inferInstance ?hm ?hn ?ha ?_; (case hm => first | with_reducible assumption | repeat (first | exact .head _ | with_reducible assumption | apply mC)); (case hn => first | rfl | simp)) | (refine' xAo rfl rfl rfl inferInstance ?hm ?hv ?hn ?ha ?_; (case hm => first | with_reducible assumption | repeat (first | exact .head _ | with_reducible assumption | apply mC)); (case hv => first | with_reducible assumption | (simp only [kC, kD, kE, kF]; try rfl)); (case hn => first | rfl | simp)) | (refine' xAi rfl rfl rfl inferInstance ?hm ?hv ?ha ?_; (case hm => first | with_reducible assumption | repeat (first | exact .head _ | with_reducible assumption | apply mC)); (case hv => first | rfl | with_reducible assumption)) | (refine' xAv rfl rfl rfl inferInstance ?hm ?hv ?hn ?ha ?_; (case hm => first | with_reducible assumption | repeat (first | exact .head _ | with_reducible assumption | apply mC)); (case hv => first | with_reducible assumption | (simp only [kC, kD, kE, kF]; try rfl)); (case hn => first | rfl | simp)) | (refine' xAn rfl rfl rfl inferInstance ?hm ?hv ?ha ?_; (case hm => first | with_reducible assumption | repeat (first | exact .head _ | with_reducible assumption | apply mC)); (case hv => first | rfl | with_reducible assumption)) | ((first | refine' xAe (by decide) rfl rfl rfl rfl (fun w => ?hq) ?ha ?_ | refine' xBb (by decide) rfl rfl rfl rfl (fun w => ?hq) ?ha ?_ | refine' xAp (by decide) rfl rfl rfl (fun w => ?hq) ?ha ?_ | refine' xAd (by decide) rfl rfl rfl (fun w => ?hq) ?ha ?_ | refine' xAq (by decide) rfl rfl rfl (fun w => ?hq) ?ha ?_ | refine' xBa (by decide) rfl rfl rfl rfl (fun w => ?hq) ?ha ?_ | refine' xBf (by decide) rfl rfl rfl rfl rfl rfl (fun w => ?hq) ?ha ?_ | refine' xBd (by decide) rfl rfl (fun w => ?hq) ?ha ?_ | refine' xAw (by decide) rfl rfl rfl (fun w => ?hq) ?ha ?_ | refine' xBe (by decide) rfl rfl rfl (fun w => ?hq) ?ha ?_); (case hq => go_simp; try rfl)) | (refine' xAm (by decide) rfl rfl rfl ?ha ?_) | (refine' xBi (by decide) rfl rfl rfl rfl ?ha ?_) | (refine' xBk (by decide) rfl ?ha ?_) | (refine' xBc rfl rfl rfl (xBh Try.func50 (by kernel_rfl) (by kernel_rfl) _) (fun w => m1 w) ?ha ?_) | (refine' xCq (by decide) rfl rfl rfl (fun w => ?hq) ?ha ?_; (case hq => go_simp; try rfl))); try (case ha => simp only [kP, kQ, kA, kB]; try rfl))
              refine xBp (hK _ _ ?_)
              clear hK K
              refine xBo (fun Q hQ => ?_)
              try simp only [List.nil_append, List.cons_append]
              repeat ((first | refine' xAx rfl (.inl rfl) rfl ?hk ?ha ?_ | refine' xAx rfl (.inr rfl) rfl ?hk ?ha ?_ | (refine' xAl rfl rfl rfl inferInstance rfl ?hs rfl rfl ?hn ?hk ?ha ?_; (case hs => repeat (first | exact xAs.head | apply xAs.tail)); (case hn => first | rfl | simp)) | (refine' xAh rfl rfl rfl inferInstance rfl rfl ?hs ?hn ?hl ?hk ?ha ?_; (case hs => repeat (first | exact xAs.head | apply xAs.tail)); (case hn => first | exact oD rfl | (show _ < 4; with_reducible assumption) | (simp; try omega)); (case hl => first | with_reducible assumption | (simp only [nl, kA, kB]; first | done | rfl) | rfl)) | (refine' xAk rfl rfl rfl inferInstance rfl rfl ?hvn ?hs ?hn ?hl ?hk ?ha ?_; (case hvn => first | rfl | simp); (case hs => repeat (first | exact xAs.head | apply xAs.tail)); (case hn => first | exact oD rfl | (show _ < 4; with_reducible assumption) | (simp; try omega)); (case hl => first | with_reducible assumption | (simp only [nl, kA, kB]; first | done | rfl) | rfl)) | (refine' xBj rfl (fun w => ?hq) ?hk ?ha ?_; (case hq => go_simp; try rfl))); (case hk => intro p hp; first | exact absurd hp List.not_mem_nil | (obtain rfl := List.mem_singleton.1 hp; repeat (first | exact List.Mem.head _ | with_reducible assumption | apply mC))); (case ha => simp only [kP, kQ, kA, kB]; try rfl))
              refine xBn (fun w hR => hQ _ _ ?_)
              clear hQ Q
              try go_wp2_with (first | (refine' xAb hR rfl rfl rfl ?_; clear hR; intro blk w hR) | (refine' xAa hR rfl rfl inferInstance ?_; clear hR; intro blk w hR) | (refine' aFq hR rfl rfl rfl inferInstance ?_) | (refine' aGq hR rfl rfl rfl inferInstance ?_) | (refine' aHq hR rfl rfl rfl inferInstance ?_) | (refine' aDq hR rfl rfl rfl inferInstance rfl ?_; clear hR; intro w hR) | (refine' aEq hR rfl rfl rfl inferInstance rfl rfl ?_; clear hR; intro w hR) | fail)
              exact hQ'.out _ _ (xBg rfl rfl rfl) hR
            · have c1 : decide (0 ≤ c) = false := decide_eq_false fun h => hlt (hc'.1 h)
              have c1' : ¬ 0 ≤ c := of_decide_eq_false c1
              have hb : ¬ xCl (p i) := fun h => hP.out ⟨h, .inr (by omega)⟩
              have ch : ∀ (L : List (Nat × Obj)) (w : World), Rep B0 w0 L w → Calls Try.prog 101 #[.agg (rrow ni ti (.slice ai ki ci)).toArray] w fun e w' => e = .returned (.bool false) ∧ Rep B0 w0 L w' := fun L w hR => (ihi L w hR).mono fun e w' ⟨b, he, h1, hR⟩ => by
                have hbb : b = false := by
                  cases b
                  · rfl
                  · exact absurd (h1.1 rfl) hb
                rw [hbb] at he
                exact ⟨he, hR⟩
              clear h0 hlt hc' hc hb ihi hprev hP hnj
              refine xAf hR [0, 0, 0, 0, 0, 0, 0, 0, 0, 0, 0, 0, 0, 0, 0, 0, 0, 0, 0, 0, 0, 0, 0] [] xBx (by kernel_rfl) rfl rfl (fun K hK => ?_)
              clear hR
              repeat ((first | (refine' hd_loadP rfl rfl rfl r9 ?ha ?_) | (refine' hd_loadP rfl rfl rfl u7 ?ha ?_) | (refine xBl ?_) | (refine' xAt (by decide) rfl (.inl rfl) rfl ?ha ?_) | (refine' xAt (by decide) rfl (.inr rfl) rfl ?ha ?_) | (refine' xAr rfl rfl rfl inferInstance ?hm ?hn ?ha ?_; (case hm => first | with_reducible assumption | repeat (first | exact .head _ | with_reducible assumption | apply mC)); (case hn => first | rfl | simp)) | (refine' xAo rfl rfl rfl inferInstance ?hm ?hv ?hn ?ha ?_; (case hm => first | with_reducible assumption | repeat (first | exact .head _ | with_reducible assumption | apply mC)); (case hv => first | with_reducible assumption | (simp only [kC, kD, kE, kF]; try rfl)); (case hn => first | rfl | simp)) | (refine' xAi rfl rfl rfl inferInstance ?hm ?hv ?ha ?_; (case hm => first | with_reducible assumption | repeat (first | exact .head _ | with_reducible assumption | apply mC)); (case hv => first | rfl | with_reducible assumption)) | (refine' xAv rfl rfl rfl inferInstance ?hm ?hv ?hn ?ha ?_; (case hm => first | with_reducible assumption | repeat (first | exact .head _ | with_reducible assumption | apply mC)); (case hv => first | with_reducible assumption | (simp only [kC, kD, kE, kF]; try rfl)); (case hn => first | rfl | simp)) | (refine' xAn rfl rfl rfl inferInstance ?hm ?hv ?ha ?_; (case hm => first | with_reducible assumption | repeat (first | exact .head _ | with_reducible assumption | apply mC)); (case hv => first | rfl | with_reducible assumption)) | ((first | refine' xAe (by decide) rfl rfl rfl rfl (fun w => ?hq) ?ha ?_ | refine' xBb (by decide) rfl rfl rfl rfl (fun w => ?hq) ?ha ?_ | refine' xAp (by decide) rfl rfl rfl (fun w => ?hq) ?ha ?_ | refine' xAd (by decide) rfl rfl rfl (fun w => ?hq) ?ha ?_ | refine' xAq (by decide) rfl rfl rfl (fun w => ?hq) ?ha ?_ | refine' xBa (by decide) rfl rfl rfl rfl (fun w => ?hq) ?ha ?_ | refine' xBf (by decide) rfl rfl rfl rfl rfl rfl (fun w => ?hq) ?ha ?_ | refine' xBd (by decide) rfl rfl (fun w => ?hq) ?ha ?_ | refine' xAw (by decide) rfl rfl rfl (fun w => ?hq) ?ha ?_ | refine' xBe (by decide) rfl rfl rfl (fun w => ?hq) ?ha ?_); (case hq => go_simp; try rfl)) | (refine' xAm (by decide) rfl rfl rfl ?ha ?_) | (refine' xBi (by decide) rfl rfl rfl rfl ?ha ?_) | (refine' xBk (by decide) rfl ?ha ?_) | (refine' xCg rfl rfl rfl (xBh Try.func101 (by kernel_rfl) (by kernel_rfl) _) (fun w hw => ch _ w hw) ?ha ?_) | (refine' xBc rfl rfl rfl (xBh Try.func50 (by kernel_rfl) (by kernel_rfl) _) (fun w => m1 w) ?ha ?_) | (refine' xCq (by decide) rfl rfl rfl (fun w => ?hq) ?ha ?_; (case hq => go_simp; try rfl))); try (case ha => simp only [kP, kQ, kA, kB]; try rfl))
              refine xBp (hK _ _ ?_)
              clear hK K
              refine xBo (fun Q hQ => ?_)
              try simp only [List.nil_append, List.cons_append]
              repeat ((first | refine' xAx rfl (.inl rfl) rfl ?hk ?ha ?_ | refine' xAx rfl (.inr rfl) rfl ?hk ?ha ?_ | (refine' xAl rfl rfl rfl inferInstance rfl ?hs rfl rfl ?hn ?hk ?ha ?_; (case hs => repeat (first | exact xAs.head | apply xAs.tail)); (case hn => first | rfl | simp)) | (refine' xAh rfl rfl rfl inferInstance rfl rfl ?hs ?hn ?hl ?hk ?ha ?_; (case hs => repeat (first | exact xAs.head | apply xAs.tail)); (case hn => first | exact oD rfl | (show _ < 4; with_reducible assumption) | (simp; try omega)); (case hl => first | with_reducible assumption | (simp only [nl, kA, kB]; first | done | rfl) | rfl)) | (refine' xAk rfl rfl rfl inferInstance rfl rfl ?hvn ?hs ?hn ?hl ?hk ?ha ?_; (case hvn => first | rfl | simp); (case hs => repeat (first | exact xAs.head | apply xAs.tail)); (case hn => first | exact oD rfl | (show _ < 4; with_reducible assumption) | (simp; try omega)); (case hl => first | with_reducible assumption | (simp only [nl, kA, kB]; first | done | rfl) | rfl)) | (refine' xBj rfl (fun w => ?hq) ?hk ?ha ?_; (case hq => go_simp; try rfl))); (case hk => intro p hp; first | exact absurd hp List.not_mem_nil | (obtain rfl := List.mem_singleton.1 hp; repeat (first | exact List.Mem.head _ | with_reducible assumption | apply mC))); (case ha => simp only [kP, kQ, kA, kB]; try rfl))
              refine xBn (fun w hR => hQ _ _ ?_)
              clear hQ Q
              try go_wp2_with (first | (refine' xAb hR rfl rfl rfl ?_; clear hR; intro blk w hR) | (refine' xAa hR rfl rfl inferInstance ?_; clear hR; intro blk w hR) | (refine' aFq hR rfl rfl rfl inferInstance ?_) | (refine' aGq hR rfl rfl rfl inferInstance ?_) | (refine' aHq hR rfl rfl rfl inferInstance ?_) | (refine' aDq hR rfl rfl rfl inferInstance rfl ?_; clear hR; intro w hR) | (refine' aEq hR rfl rfl rfl inferInstance rfl rfl ?_; clear hR; intro w hR) | fail)
              exact hQ'.out _ _ (xBg rfl rfl rfl) hR
        case c2 =>
          clear hR ihi hprev hP r7 r9
          intro tm w ht hR
          simp only [kA, kB] at ht
          repeat (first | (obtain ⟨x, tm', e, ht'⟩ := xAu ht; clear ht; subst e; have ht := ht'; clear ht') | (obtain ⟨tm', e, ht'⟩ := xAj ht; clear ht; subst e; have ht := ht'; clear ht'))
          obtain rfl := xAy ht
          clear ht
          simp only [Exit.then]
          refine k5 _ _ ?_
          clear k5
          go_wp2_with (first | (refine' xAb hR rfl rfl rfl ?_; clear hR; intro blk w hR) | (refine' xAa hR rfl rfl inferInstance ?_; clear hR; intro blk w hR) | (refine' aFq hR rfl rfl rfl inferInstance ?_) | (refine' aGq hR rfl rfl rfl inferInstance ?_) | (refine' aHq hR rfl rfl rfl inferInstance ?_) | (refine' aDq hR rfl rfl rfl inferInstance rfl ?_; clear hR; intro w hR) | (refine' aEq hR rfl rfl rfl inferInstance rfl rfl ?_; clear hR; intro w hR) | fail)
          go_ret
          exact ⟨false, rfl, ⟨fun h => (by cases h), fun h => absurd h hno.out⟩, hR.drop1.drop1.drop1.drop1.drop1⟩
      obtain ⟨hP1, hP2⟩ := hP
      have n2 := (hpr.out hP1).1
      have lpos : 0 < ls := by have := hls.out; omega
      have hpm := part_most n2 lpos
      have hnz : ni ≠ 0 := by omega
      obtain ⟨dq, hdq⟩ : ∃ x, quo0 ls ni = x := ⟨_, rfl⟩
      obtain ⟨r, hr⟩ : ∃ x, ls % ni = x := ⟨_, rfl⟩
      have rB : r < B := by rw [← hr]; exact Nat.lt_trans (Nat.mod_lt _ (by omega)) hiB
      have d1 := rd_lit (e := 0) hlB hiB hdq (show rem0 ls ni = r by rw [rem0_pos hnz, hr]) (if_neg hnz)
      rw [hr] at hpm
      obtain ⟨pw, hpw⟩ : ∃ x, mostN ni ls = x := ⟨_, rfl⟩
      have mo := fun w => rpower_any ni ls hiB hlB n2 lpos w
      have hpB := (most_lt (q := ni) (M := ls) n2 lpos hlB).2
      rw [hpw] at mo hpB hQQ hpm
      obtain ⟨fj, hfj⟩ : ∃ x, facB Q (i + 1) = x := ⟨_, rfl⟩
      obtain ⟨fh, hfh⟩ : ∃ x, fi * pw / B = x := ⟨_, rfl⟩
      have m3 := rm_lit (l := fj) fB hpB (by rw [← hfj, hfs, hQQ]) hfh
      have ch : ∀ (L : List (Nat × Obj)) (w : World), Rep B0 w0 L w → Calls Try.prog 101 #[.agg (rrow ni ti (.slice ai ki ci)).toArray] w fun e w' => e = .returned (.bool true) ∧ Rep B0 w0 L w' := fun L w hR => (ihi L w hR).mono fun e w' ⟨b, he, h1, hR⟩ => by
        rw [h1.2 hP1] at he
        exact ⟨he, hR⟩
      obtain ⟨er, her⟩ : ∃ e, eqN r 0 = e := ⟨_, rfl⟩
      have her' : er = true ↔ r = 0 := by
        rw [← her]
        by_cases h : r = 0
        · rw [xBw h]; exact ⟨fun _ => h, fun _ => rfl⟩
        · rw [xBz rB B_pos h]; exact ⟨fun h => (by cases h), fun h' => absurd h' h⟩
      have hend : (er = false ∧ ¬ xCl (.node n t k p)) ∨ (er = true ∧ ∀ j, j < i + 1 → xCl (p j) ∧ (j = 0 ∨ (p (j - 1)).num < (p j).num) ∧ mostN (p j).num ls ≠ 1) := by
        by_cases h : r = 0
        · exact .inr ⟨her'.2 h, hg2.out ⟨hP1, hP2, by rw [hpw]; exact hpm.2 h⟩⟩
        · refine .inl ⟨?_, fun h' => h (hpm.1 (by have := (hgood.out h').2.2; rwa [hpw] at this))⟩
          cases he : er
          · rfl
          · exact absurd (her'.1 he) h
      replace hend := Held.mk hend
      replace hP2 := Held.mk hP2
      replace hfj := Held.mk hfj
      clear hgood hg2 hpr hfs hQQ hP1 n2 hpm hnz hdq hr her' hpw hfh ihi hfi hni hls
      repeat (first | (obtain ⟨x, tm', e, ht'⟩ := xAu ht; clear ht; subst e; have ht := ht'; clear ht') | (obtain ⟨tm', e, ht'⟩ := xAj ht; clear ht; subst e; have ht := ht'; clear ht'))
      obtain rfl := xAy ht
      clear ht
      go_upto_region 10 with (first | go_skip | (refine' xAb hR rfl rfl rfl ?_; clear hR; intro blk w hR) | (refine' xAa hR rfl rfl inferInstance ?_; clear hR; intro blk w hR) | (refine' aFq hR rfl rfl rfl inferInstance ?_) | (refine' aGq hR rfl rfl rfl inferInstance ?_) | (refine' aHq hR rfl rfl rfl inferInstance ?_) | (refine' aDq hR rfl rfl rfl inferInstance rfl ?_; clear hR; intro w hR) | (refine' aEq hR rfl rfl rfl inferInstance rfl rfl ?_; clear hR; intro w hR) | (refine' xAg hR rfl rfl rfl inferInstance ?hm ?hn ?_; (case hm => first | with_reducible assumption | repeat (first | exact .head _ | with_reducible assumption | apply mC)); (case hn => first | rfl | simp)) | (refine' xAc hR rfl rfl rfl inferInstance ?hm ?hv ?_; (case hm => first | with_reducible assumption | repeat (first | exact .head _ | with_reducible assumption | apply mC)); (case hv => first | rfl | with_reducible assumption)) | (refine' xBs rfl rfl rfl r7w ?_))
      clear r7w
      rename_i K5 k5
      try simp only [Act.put, kA, kB, List.setIfInBounds_toArray]
      refine' cut_sameC hR (false :: false :: false :: false :: false :: false :: false :: false :: false :: false :: false :: false :: false :: false :: false :: false :: false :: false :: false :: false :: false :: false :: false :: false :: false :: false :: false :: false :: false :: false :: false :: false :: false :: false :: false :: false :: false :: false :: false :: false :: false :: false :: false :: false :: false :: false :: false :: false :: false :: false :: false :: false :: false :: false :: false :: false :: false :: false :: false :: false :: false :: false :: false :: false :: true :: true :: true :: true :: true :: true :: true :: true :: true :: true :: true :: true :: true :: true :: true :: true :: true :: true :: true :: true :: true :: true :: false :: false :: false :: false :: false :: false :: false :: false :: false :: false :: false :: false :: false :: false :: false :: false :: false :: false :: false :: false :: false :: false :: false :: false :: false :: false :: false :: false :: false :: false :: false :: false :: false :: false :: false :: false :: false :: false :: false :: false :: false :: false :: false :: false :: false :: false :: false :: false :: false :: false :: false :: false :: false :: false :: false :: false :: false :: false :: false :: false :: false :: false :: false :: false :: false :: false :: false :: false :: false :: false :: false :: false :: false :: false :: false :: false :: false :: false :: false :: false :: false :: false :: false :: false :: false :: false :: false :: false :: false :: false :: false :: false :: false :: false :: false :: false :: false :: false :: false :: false :: false :: false :: []) (fun l => l.set 86 (.bool false)) ?d1 ?d2
      case d1 =>
        intro Q' hQ'
        clear k5 hend hK d1 mo m3
        rcases hprev.out with ⟨h0, g2, g3⟩ | ⟨j, nj, h0, g2, g3, hnj, hjB, ej, j0, j1, u7⟩
        · have g3' : ¬ 0 < (i : Int) := of_decide_eq_false g3
          have g2' : ¬ 0 < i := of_decide_eq_false g2
          clear h0 hprev hP2
          refine xAf hR [0, 0, 0, 0, 0, 0, 0, 0, 0, 0, 0, 0, 0, 0, 0, 0, 0, 0, 0, 0, 0, 0, 0] [] xBx (by kernel_rfl) rfl rfl (fun K hK => ?_)
          clear hR
          repeat ((first | (refine' hd_loadP rfl rfl rfl r9 ?ha ?_) | (refine xBl ?_) | (refine' xAt (by decide) rfl (.inl rfl) rfl ?ha ?_) | (refine' xAt (by decide) rfl (.inr rfl) rfl ?ha ?_) | (refine' xAr rfl rfl rfl inferInstance ?hm ?hn ?ha ?_; (case hm => first | with_reducible assumption | repeat (first | exact .head _ | with_reducible assumption | apply mC)); (case hn => first | rfl | simp)) | (refine' xAo rfl rfl rfl inferInstance ?hm ?hv ?hn ?ha ?_; (case hm => first | with_reducible assumption | repeat (first | exact .head _ | with_reducible assumption | apply mC)); (case hv => first | with_reducible assumption | (simp only [kC, kD, kE, kF]; try rfl)); (case hn => first | rfl | simp)) | (refine' xAi rfl rfl rfl inferInstance ?hm ?hv ?ha ?_; (case hm => first | with_reducible assumption | repeat (first | exact .head _ | with_reducible assumption | apply mC)); (case hv => first | rfl | with_reducible assumption)) | (refine' xAv rfl rfl rfl inferInstance ?hm ?hv ?hn ?ha ?_; (case hm => first | with_reducible assumption | repeat (first | exact .head _ | with_reducible assumption | apply mC)); (case hv => first | with_reducible assumption | (simp only [kC, kD, kE, kF]; try rfl)); (case hn => first | rfl | simp)) | (refine' xAn rfl rfl rfl inferInstance ?hm ?hv ?ha ?_; (case hm => first | with_reducible assumption | repeat (first | exact .head _ | with_reducible assumption | apply mC)); (case hv => first | rfl | with_reducible assumption)) | ((first | refine' xAe (by decide) rfl rfl rfl rfl (fun w => ?hq) ?ha ?_ | refine' xBb (by decide) rfl rfl rfl rfl (fun w => ?hq) ?ha ?_ | refine' xAp (by decide) rfl rfl rfl (fun w => ?hq) ?ha ?_ | refine' xAd (by decide) rfl rfl rfl (fun w => ?hq) ?ha ?_ | refine' xAq (by decide) rfl rfl rfl (fun w => ?hq) ?ha ?_ | refine' xBa (by decide) rfl rfl rfl rfl (fun w => ?hq) ?ha ?_ | refine' xBf (by decide) rfl rfl rfl rfl rfl rfl (fun w => ?hq) ?ha ?_ | refine' xBd (by decide) rfl rfl (fun w => ?hq) ?ha ?_ | refine' xAw (by decide) rfl rfl rfl (fun w => ?hq) ?ha ?_ | refine' xBe (by decide) rfl rfl rfl (fun w => ?hq) ?ha ?_); (case hq => go_simp; try rfl)) | (refine' xAm (by decide) rfl rfl rfl ?ha ?_) | (refine' xBi (by decide) rfl rfl rfl rfl ?ha ?_) | (refine' xBk (by decide) rfl ?ha ?_) | (refine' xCg rfl rfl rfl (xBh Try.func101 (by kernel_rfl) (by kernel_rfl) _) (fun w hw => ch _ w hw) ?ha ?_) | (refine' xCq (by decide) rfl rfl rfl (fun w => ?hq) ?ha ?_; (case hq => go_simp; try rfl))); try (case ha => simp only [kP, kQ, kA, kB]; try rfl))
          refine xBp (hK _ _ ?_)
          clear hK K
          refine xBo (fun Q hQ => ?_)
          try simp only [List.nil_append, List.cons_append]
          repeat ((first | refine' xAx rfl (.inl rfl) rfl ?hk ?ha ?_ | refine' xAx rfl (.inr rfl) rfl ?hk ?ha ?_ | (refine' xAl rfl rfl rfl inferInstance rfl ?hs rfl rfl ?hn ?hk ?ha ?_; (case hs => repeat (first | exact xAs.head | apply xAs.tail)); (case hn => first | rfl | simp)) | (refine' xAh rfl rfl rfl inferInstance rfl rfl ?hs ?hn ?hl ?hk ?ha ?_; (case hs => repeat (first | exact xAs.head | apply xAs.tail)); (case hn => first | exact oD rfl | (show _ < 4; with_reducible assumption) | (simp; try omega)); (case hl => first | with_reducible assumption | (simp only [nl, kA, kB]; first | done | rfl) | rfl)) | (refine' xAk rfl rfl rfl inferInstance rfl rfl ?hvn ?hs ?hn ?hl ?hk ?ha ?_; (case hvn => first | rfl | simp); (case hs => repeat (first | exact xAs.head | apply xAs.tail)); (case hn => first | exact oD rfl | (show _ < 4; with_reducible assumption) | (simp; try omega)); (case hl => first | with_reducible assumption | (simp only [nl, kA, kB]; first | done | rfl) | rfl)) | (refine' xBj rfl (fun w => ?hq) ?hk ?ha ?_; (case hq => go_simp; try rfl))); (case hk => intro p hp; first | exact absurd hp List.not_mem_nil | (obtain rfl := List.mem_singleton.1 hp; repeat (first | exact List.Mem.head _ | with_reducible assumption | apply mC))); (case ha => simp only [kP, kQ, kA, kB]; try rfl))
          refine xBn (fun w hR => hQ _ _ ?_)
          clear hQ Q
          try go_wp2_with (first | (refine' xAb hR rfl rfl rfl ?_; clear hR; intro blk w hR) | (refine' xAa hR rfl rfl inferInstance ?_; clear hR; intro blk w hR) | (refine' aFq hR rfl rfl rfl inferInstance ?_) | (refine' aGq hR rfl rfl rfl inferInstance ?_) | (refine' aHq hR rfl rfl rfl inferInstance ?_) | (refine' aDq hR rfl rfl rfl inferInstance rfl ?_; clear hR; intro w hR) | (refine' aEq hR rfl rfl rfl inferInstance rfl rfl ?_; clear hR; intro w hR) | fail)
          exact hQ'.out _ _ (xBg rfl rfl rfl) hR
        · have g3' : 0 < (i : Int) := oD g3
          have g2' : 0 < i := oD g2
          have hlt : nj < ni := by
            rcases hP2.out with h | h
            · omega
            · rw [hnj] at h; exact h
          obtain ⟨c, hc⟩ : ∃ c, cmpN nj ni = c := ⟨_, rfl⟩
          have m1 := rc_lit hjB hiB hc
          have c1 : decide (0 ≤ c) = false := decide_eq_false fun h => by
            rw [← hc, cmpN_ge] at h
            omega
          have c1' : ¬ 0 ≤ c := of_decide_eq_false c1
          clear h0 hlt hc hprev hP2 hnj
          refine xAf hR [0, 0, 0, 0, 0, 0, 0, 0, 0, 0, 0, 0, 0, 0, 0, 0, 0, 0, 0, 0, 0, 0, 0] [] xBx (by kernel_rfl) rfl rfl (fun K hK => ?_)
          clear hR
          repeat ((first | (refine' hd_loadP rfl rfl rfl r9 ?ha ?_) | (refine' hd_loadP rfl rfl rfl u7 ?ha ?_) | (refine xBl ?_) | (refine' xAt (by decide) rfl (.inl rfl) rfl ?ha ?_) | (refine' xAt (by decide) rfl (.inr rfl) rfl ?ha ?_) | (refine' xAr rfl rfl rfl inferInstance ?hm ?hn ?ha ?_; (case hm => first | with_reducible assumption | repeat (first | exact .head _ | with_reducible assumption | apply mC)); (case hn => first | rfl | simp)) | (refine' xAo rfl rfl rfl inferInstance ?hm ?hv ?hn ?ha ?_; (case hm => first | with_reducible assumption | repeat (first | exact .head _ | with_reducible assumption | apply mC)); (case hv => first | with_reducible assumption | (simp only [kC, kD, kE, kF]; try rfl)); (case hn => first | rfl | simp)) | (refine' xAi rfl rfl rfl inferInstance ?hm ?hv ?ha ?_; (case hm => first | with_reducible assumption | repeat (first | exact .head _ | with_reducible assumption | apply mC)); (case hv => first | rfl | with_reducible assumption)) | (refine' xAv rfl rfl rfl inferInstance ?hm ?hv ?hn ?ha ?_; (case hm => first | with_reducible assumption | repeat (first | exact .head _ | with_reducible assumption | apply mC)); (case hv => first | with_reducible assumption | (simp only [kC, kD, kE, kF]; try rfl)); (case hn => first | rfl | simp)) | (refine' xAn rfl rfl rfl inferInstance ?hm ?hv ?ha ?_; (case hm => first | with_reducible assumption | repeat (first | exact .head _ | with_reducible assumption | apply mC)); (case hv => first | rfl | with_reducible assumption)) | ((first | refine' xAe (by decide) rfl rfl rfl rfl (fun w => ?hq) ?ha ?_ | refine' xBb (by decide) rfl rfl rfl rfl (fun w => ?hq) ?ha ?_ | refine' xAp (by decide) rfl rfl rfl (fun w => ?hq) ?ha ?_ | refine' xAd (by decide) rfl rfl rfl (fun w => ?hq) ?ha ?_ | refine' xAq (by decide) rfl rfl rfl (fun w => ?hq) ?ha ?_ | refine' xBa (by decide) rfl rfl rfl rfl (fun w => ?hq) ?ha ?_ | refine' xBf (by decide) rfl rfl rfl rfl rfl rfl (fun w => ?hq) ?ha ?_ | refine' xBd (by decide) rfl rfl (fun w => ?hq) ?ha ?_ | refine' xAw (by decide) rfl rfl rfl (fun w => ?hq) ?ha ?_ | refine' xBe (by decide) rfl rfl rfl (fun w => ?hq) ?ha ?_); (case hq => go_simp; try rfl)) | (refine' xAm (by decide) rfl rfl rfl ?ha ?_) | (refine' xBi (by decide) rfl rfl rfl rfl ?ha ?_) | (refine' xBk (by decide) rfl ?ha ?_) | (refine' xCg rfl rfl rfl (xBh Try.func101 (by kernel_rfl) (by kernel_rfl) _) (fun w hw => ch _ w hw) ?ha ?_) | (refine' xBc rfl rfl rfl (xBh Try.func50 (by kernel_rfl) (by kernel_rfl) _) (fun w => m1 w) ?ha ?_) | (refine' xCq (by decide) rfl rfl rfl (fun w => ?hq) ?ha ?_; (case hq => go_simp; try rfl))); try (case ha => simp only [kP, kQ, kA, kB]; try rfl))
          refine xBp (hK _ _ ?_)
          clear hK K
          refine xBo (fun Q hQ => ?_)
          try simp only [List.nil_append, List.cons_append]
          repeat ((first | refine' xAx rfl (.inl rfl) rfl ?hk ?ha ?_ | refine' xAx rfl (.inr rfl) rfl ?hk ?ha ?_ | (refine' xAl rfl rfl rfl inferInstance rfl ?hs rfl rfl ?hn ?hk ?ha ?_; (case hs => repeat (first | exact xAs.head | apply xAs.tail)); (case hn => first | rfl | simp)) | (refine' xAh rfl rfl rfl inferInstance rfl rfl ?hs ?hn ?hl ?hk ?ha ?_; (case hs => repeat (first | exact xAs.head | apply xAs.tail)); (case hn => first | exact oD rfl | (show _ < 4; with_reducible assumption) | (simp; try omega)); (case hl => first | with_reducible assumption | (simp only [nl, kA, kB]; first | done | rfl) | rfl)) | (refine' xAk rfl rfl rfl inferInstance rfl rfl ?hvn ?hs ?hn ?hl ?hk ?ha ?_; (case hvn => first | rfl | simp); (case hs => repeat (first | exact xAs.head | apply xAs.tail)); (case hn => first | exact oD rfl | (show _ < 4; with_reducible assumption) | (simp; try omega)); (case hl => first | with_reducible assumption | (simp only [nl, kA, kB]; first | done | rfl) | rfl)) | (refine' xBj rfl (fun w => ?hq) ?hk ?ha ?_; (case hq => go_simp; try rfl))); (case hk => intro p hp; first | exact absurd hp List.not_mem_nil | (obtain rfl := List.mem_singleton.1 hp; repeat (first | exact List.Mem.head _ | with_reducible assumption | apply mC))); (case ha => simp only [kP, kQ, kA, kB]; try rfl))
          refine xBn (fun w hR => hQ _ _ ?_)
          clear hQ Q
          try go_wp2_with (first | (refine' xAb hR rfl rfl rfl ?_; clear hR; intro blk w hR) | (refine' xAa hR rfl rfl inferInstance ?_; clear hR; intro blk w hR) | (refine' aFq hR rfl rfl rfl inferInstance ?_) | (refine' aGq hR rfl rfl rfl inferInstance ?_) | (refine' aHq hR rfl rfl rfl inferInstance ?_) | (refine' aDq hR rfl rfl rfl inferInstance rfl ?_; clear hR; intro w hR) | (refine' aEq hR rfl rfl rfl inferInstance rfl rfl ?_; clear hR; intro w hR) | fail)
          exact hQ'.out _ _ (xBg rfl rfl rfl) hR
      case d2 =>
        clear hR hprev hP2 r7 r9 ch
        intro tm w ht hR
        simp only [kA, kB] at ht
        repeat (first | (obtain ⟨x, tm', e, ht'⟩ := xAu ht; clear ht; subst e; have ht := ht'; clear ht') | (obtain ⟨tm', e, ht'⟩ := xAj ht; clear ht; subst e; have ht := ht'; clear ht'))
        obtain rfl := xAy ht
        clear ht
        simp only [Exit.then]
        refine k5 _ _ ?_
        clear k5
        rcases hend.out with ⟨rfl, hno⟩ | ⟨rfl, hgj⟩
        · replace hno := Held.mk hno
          clear hend hK m3 mo ek hi1 hmu
          go_wp2_with (first | go_skip | (refine' xAb hR rfl rfl rfl ?_; clear hR; intro blk w hR) | (refine' xAa hR rfl rfl inferInstance ?_; clear hR; intro blk w hR) | (refine' aFq hR rfl rfl rfl inferInstance ?_) | (refine' aGq hR rfl rfl rfl inferInstance ?_) | (refine' aHq hR rfl rfl rfl inferInstance ?_) | (refine' aDq hR rfl rfl rfl inferInstance rfl ?_; clear hR; intro w hR) | (refine' aEq hR rfl rfl rfl inferInstance rfl rfl ?_; clear hR; intro w hR) | (refine' xAg hR rfl rfl rfl inferInstance ?hm ?hn ?_; (case hm => first | with_reducible assumption | repeat (first | exact .head _ | with_reducible assumption | apply mC)); (case hn => first | rfl | simp)) | (refine' xAc hR rfl rfl rfl inferInstance ?hm ?hv ?_; (case hm => first | with_reducible assumption | repeat (first | exact .head _ | with_reducible assumption | apply mC)); (case hv => first | rfl | with_reducible assumption)) | (refine' xAz hR rfl rfl rfl inferInstance ?hm ?hv ?hn ?_; (case hm => first | with_reducible assumption | repeat (first | exact .head _ | with_reducible assumption | apply mC)); (case hv => first | with_reducible assumption | (simp only [kC, kD, kE, kF]; try rfl)); (case hn => first | rfl | simp)) | (go_at_call 60; refine (d1 _).mono ?_; rintro e w ⟨rfl, hb⟩; replace hR := hR.call hb; clear hb))
          go_ret
          exact ⟨false, rfl, ⟨fun h => (by cases h), fun h => absurd h hno.out⟩, hR.drop1.drop1.drop1.drop1.drop1.drop1.drop1⟩
        · replace hgj := Held.mk hgj
          clear hend
          go_wp2_with (first | go_skip | (refine' xAb hR rfl rfl rfl ?_; clear hR; intro blk w hR) | (refine' xAa hR rfl rfl inferInstance ?_; clear hR; intro blk w hR) | (refine' aFq hR rfl rfl rfl inferInstance ?_) | (refine' aGq hR rfl rfl rfl inferInstance ?_) | (refine' aHq hR rfl rfl rfl inferInstance ?_) | (refine' aDq hR rfl rfl rfl inferInstance rfl ?_; clear hR; intro w hR) | (refine' aEq hR rfl rfl rfl inferInstance rfl rfl ?_; clear hR; intro w hR) | (refine' xAg hR rfl rfl rfl inferInstance ?hm ?hn ?_; (case hm => first | with_reducible assumption | repeat (first | exact .head _ | with_reducible assumption | apply mC)); (case hn => first | rfl | simp)) | (refine' xAc hR rfl rfl rfl inferInstance ?hm ?hv ?_; (case hm => first | with_reducible assumption | repeat (first | exact .head _ | with_reducible assumption | apply mC)); (case hv => first | rfl | with_reducible assumption)) | (refine' xAz hR rfl rfl rfl inferInstance ?hm ?hv ?hn ?_; (case hm => first | with_reducible assumption | repeat (first | exact .head _ | with_reducible assumption | apply mC)); (case hv => first | with_reducible assumption | (simp only [kC, kD, kE, kF]; try rfl)); (case hn => first | rfl | simp)) | (go_at_call 60; refine (d1 _).mono ?_; rintro e w ⟨rfl, hb⟩; replace hR := hR.call hb; clear hb))
          refine xAf hR [0, 0, 0, 0, 0, 0, 0, 1, 2] [] xBx (by kernel_rfl) rfl rfl (fun K hK => ?_)
          clear hR
          repeat ((first | (refine xBl ?_) | (refine' xAt (by decide) rfl (.inl rfl) rfl ?ha ?_) | (refine' xAt (by decide) rfl (.inr rfl) rfl ?ha ?_) | (refine' xAr rfl rfl rfl inferInstance ?hm ?hn ?ha ?_; (case hm => first | with_reducible assumption | repeat (first | exact .head _ | with_reducible assumption | apply mC)); (case hn => first | rfl | simp)) | (refine' xAo rfl rfl rfl inferInstance ?hm ?hv ?hn ?ha ?_; (case hm => first | with_reducible assumption | repeat (first | exact .head _ | with_reducible assumption | apply mC)); (case hv => first | with_reducible assumption | (simp only [kC, kD, kE, kF]; try rfl)); (case hn => first | rfl | simp)) | (refine' xAi rfl rfl rfl inferInstance ?hm ?hv ?ha ?_; (case hm => first | with_reducible assumption | repeat (first | exact .head _ | with_reducible assumption | apply mC)); (case hv => first | rfl | with_reducible assumption)) | (refine' xAv rfl rfl rfl inferInstance ?hm ?hv ?hn ?ha ?_; (case hm => first | with_reducible assumption | repeat (first | exact .head _ | with_reducible assumption | apply mC)); (case hv => first | with_reducible assumption | (simp only [kC, kD, kE, kF]; try rfl)); (case hn => first | rfl | simp)) | (refine' xAn rfl rfl rfl inferInstance ?hm ?hv ?ha ?_; (case hm => first | with_reducible assumption | repeat (first | exact .head _ | with_reducible assumption | apply mC)); (case hv => first | rfl | with_reducible assumption)) | ((first | refine' xAe (by decide) rfl rfl rfl rfl (fun w => ?hq) ?ha ?_ | refine' xBb (by decide) rfl rfl rfl rfl (fun w => ?hq) ?ha ?_ | refine' xAp (by decide) rfl rfl rfl (fun w => ?hq) ?ha ?_ | refine' xAd (by decide) rfl rfl rfl (fun w => ?hq) ?ha ?_ | refine' xAq (by decide) rfl rfl rfl (fun w => ?hq) ?ha ?_ | refine' xBa (by decide) rfl rfl rfl rfl (fun w => ?hq) ?ha ?_ | refine' xBf (by decide) rfl rfl rfl rfl rfl rfl (fun w => ?hq) ?ha ?_ | refine' xBd (by decide) rfl rfl (fun w => ?hq) ?ha ?_ | refine' xAw (by decide) rfl rfl rfl (fun w => ?hq) ?ha ?_ | refine' xBe (by decide) rfl rfl rfl (fun w => ?hq) ?ha ?_); (case hq => go_simp; try rfl)) | (refine' xAm (by decide) rfl rfl rfl ?ha ?_) | (refine' xBi (by decide) rfl rfl rfl rfl ?ha ?_) | (refine' xBk (by decide) rfl ?ha ?_) | (refine' xBc rfl rfl rfl (xBh Try.func135 (by kernel_rfl) (by kernel_rfl) _) (fun w => mo w) ?ha ?_) | (refine' xBc rfl rfl rfl (xBh Try.func132 (by kernel_rfl) (by kernel_rfl) _) (fun w => m3 w) ?ha ?_)); try (case ha => simp only [kP, kQ, kA, kB]; try rfl))
          refine xBp (hK _ _ ?_)
          clear hK K
          refine xBo (fun Q hQ => ?_)
          try simp only [List.nil_append, List.cons_append]
          repeat ((first | refine' xAx rfl (.inl rfl) rfl ?hk ?ha ?_ | refine' xAx rfl (.inr rfl) rfl ?hk ?ha ?_ | (refine' xAl rfl rfl rfl inferInstance rfl ?hs rfl rfl ?hn ?hk ?ha ?_; (case hs => repeat (first | exact xAs.head | apply xAs.tail)); (case hn => first | rfl | simp)) | (refine' xAh rfl rfl rfl inferInstance rfl rfl ?hs ?hn ?hl ?hk ?ha ?_; (case hs => repeat (first | exact xAs.head | apply xAs.tail)); (case hn => first | exact oD rfl | (show _ < 4; with_reducible assumption) | (simp; try omega)); (case hl => first | with_reducible assumption | (simp only [nl, kA, kB]; first | done | rfl) | rfl)) | (refine' xAk rfl rfl rfl inferInstance rfl rfl ?hvn ?hs ?hn ?hl ?hk ?ha ?_; (case hvn => first | rfl | simp); (case hs => repeat (first | exact xAs.head | apply xAs.tail)); (case hn => first | exact oD rfl | (show _ < 4; with_reducible assumption) | (simp; try omega)); (case hl => first | with_reducible assumption | (simp only [nl, kA, kB]; first | done | rfl) | rfl)) | (refine' xBj rfl (fun w => ?hq) ?hk ?ha ?_; (case hq => go_simp; try rfl))); (case hk => intro p hp; first | exact absurd hp List.not_mem_nil | (obtain rfl := List.mem_singleton.1 hp; repeat (first | exact List.Mem.head _ | with_reducible assumption | apply mC))); (case ha => simp only [kP, kQ, kA, kB]; try rfl))
          refine xBn (fun w hR => hQ _ _ ?_)
          clear hQ Q
          go_wp2_with (first | (refine' xAb hR rfl rfl rfl ?_; clear hR; intro blk w hR) | (refine' xAa hR rfl rfl inferInstance ?_; clear hR; intro blk w hR) | (refine' aFq hR rfl rfl rfl inferInstance ?_) | (refine' aGq hR rfl rfl rfl inferInstance ?_) | (refine' aHq hR rfl rfl rfl inferInstance ?_) | (refine' aDq hR rfl rfl rfl inferInstance rfl ?_; clear hR; intro w hR) | (refine' aEq hR rfl rfl rfl inferInstance rfl rfl ?_; clear hR; intro w hR) | fail)
          refine hK.out (i + 1) _ _ ⟨hi1.out, hgj.out⟩ hmu.out (by simp only [ek.out]; exact xBg rfl rfl rfl) ?_
          show Rep B0 w0 ((b6, .cells (nl (facB Q (i + 1))).toArray 24) :: _) _
          rw [hfj.out]
          exact hR.drop1.drop1.drop1
end
end Go.Proofs.Ytdagdfcbnhfdkaa
