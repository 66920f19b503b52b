/- The walk of balefirelaw12.DualsAll. -/
import Derived.Test.YtgfoeongjhkdmaaUDLeast
set_option linter.unusedVariables false
set_option linter.unusedSimpArgs false
namespace Go.Proofs.Ytgfoeongjhkdmaa
open Go.RowKit
attribute [local irreducible] Calls Instr.build Instr.buildSlice
section
variable {B0 : Nat} {w0 w W : World} {L : List (Nat × Obj)} {p q g h n cp k m : Nat} {a : Option Addr} {f : Nat → Nat}
theorem values_rep (hp : p < B) (hq : q < B) (h1 : 1 < q) (hA : NAt B0 w0 L a n cp f) (hn : n ≤ 1000) (hf : ∀ j, j < n → f j < q) (hm : m ≤ 1000) (hR : Rep B0 w0 L w) :
    Calls Try.prog 20 #[grp p q g h, .slice a n cp, .int .i64 (m : Int)] w fun e w' => ∃ X : GrN, e = .returned (.slice X.a m X.cap) ∧ GrNOk X m (valF q n f) ∧ Rep B0 w0 (X.bl ++ L) w' :=
  (values_go (g := g) (h := h) hp hq h1 (hA.here hR) hn hf hm).mono fun e w' ⟨X, h1, h2, h3⟩ => ⟨X, h1, h2, hR.join h3⟩
theorem NAt.take (hA : NAt B0 w0 L a n cp f) (hk : k ≤ n) : NAt B0 w0 L a k cp f :=
  ⟨by have := hA.lec; omega, hA.big, fun j hj => hA.lt j (by omega), fun h0 => by
    obtain ⟨b, o, q1, q2⟩ := hA.at' (by omega)
    exact ⟨b, o, q1, fun w hw j hj => q2 w hw j (by omega)⟩⟩
theorem cut_front {bv ov : Nat} (hA : NAt B0 w0 L (some ⟨bv, ov, none⟩) n cp f) (hk : k ≤ n) (hk1 : 1 ≤ k) (w : World) : (Instr.sliceAt 27 (.slice (some ⟨bv, ov, none⟩) n cp) none (some (.int .i64 (k : Int))) none).run Try.prog w = .ok (.slice (some ⟨bv, ov, none⟩) k cp) w := by
  have h0 := hA.lec
  have h1 := hA.big
  unfold maxLen at h1
  have g0 : 0 ≤ (k : Int) := by omega
  have g1 : (k : Int) ≤ (cp : Int) := by omega
  have g2 : ¬ cp = 0 := by omega
  go_simp
end
set_option maxRecDepth 100000 in
set_option maxHeartbeats 8000000 in
set_option maxRecDepth 100000 in
theorem dall_walk (W : World) (p q g h : Nat) (hp : p < B) (hq : q < B) (hg : g < B) (hh : h < B) (a : Option Addr) (n cp : Nat) (f : Nat → Nat) (oi : Int) (S1 : NAt W.heap.size W [] a n cp f) (ho : 0 ≤ oi ∧ oi < 256) :
    Calls Try.prog 7 #[grp p q g h, .slice a n cp, .int .u8 oi] W fun e w' => e = .returned (.bool true) ∧ Below W.heap.size W w' := by
  classical
  have hR := Rep.init W
  by_cases h7 : n ≤ 7
  case neg =>
    have t1 : (7 : Int) < (n : Int) := by omega
    have t1d : decide ((7 : Int) < (n : Int)) = true := decide_eq_true t1
    clear S1 hp hq hg hh h7
    go_enter Try.func7, Try.ntmps7
    go_wp2_with (first | go_skip | (refine' xAb hR rfl rfl rfl ?_; clear hR; intro blk w hR) | (refine' xAa hR rfl rfl inferInstance ?_; clear hR; intro blk w hR) | (refine' aFq hR rfl rfl rfl inferInstance ?_) | (refine' aGq hR rfl rfl rfl inferInstance ?_) | (refine' aHq hR rfl rfl rfl inferInstance ?_) | (refine' aIq hR rfl rfl rfl inferInstance rfl ?_; clear hR; intro w hR) | (refine' aJq hR rfl rfl rfl inferInstance rfl rfl ?_; clear hR; intro w hR) | (refine' xAq hR rfl rfl rfl inferInstance ?hm ?hn ?_; (case hm => first | with_reducible assumption | repeat (first | exact .head _ | with_reducible assumption | apply mC)); (case hn => first | rfl | simp)) | (refine' xAh hR rfl rfl rfl inferInstance ?hm ?hv ?_; (case hm => first | with_reducible assumption | repeat (first | exact .head _ | with_reducible assumption | apply mC)); (case hv => first | rfl | with_reducible assumption)) | (refine' xAs hR rfl rfl rfl inferInstance ?hm ?hv ?hn ?_; (case hm => first | with_reducible assumption | repeat (first | exact .head _ | with_reducible assumption | apply mC)); (case hv => first | with_reducible assumption | (simp only [kC, kD, kE, kF]; try rfl)); (case hn => first | rfl | simp)) | (go_at_call 18; refine (alive12 _).mono ?_; rintro e w ⟨rfl, hb⟩; replace hR := hR.call hb; clear hb))
    go_ret
    exact ⟨rfl, hR.below⟩
  have t1 : ¬ (7 : Int) < (n : Int) := by omega
  have t1d : decide ((7 : Int) < (n : Int)) = false := decide_eq_false t1
  by_cases h0 : n = 0
  case pos =>
    subst h0
    clear S1 hp hq hg hh h7
    go_enter Try.func7, Try.ntmps7
    go_wp2_with (first | go_skip | (refine' xAb hR rfl rfl rfl ?_; clear hR; intro blk w hR) | (refine' xAa hR rfl rfl inferInstance ?_; clear hR; intro blk w hR) | (refine' aFq hR rfl rfl rfl inferInstance ?_) | (refine' aGq hR rfl rfl rfl inferInstance ?_) | (refine' aHq hR rfl rfl rfl inferInstance ?_) | (refine' aIq hR rfl rfl rfl inferInstance rfl ?_; clear hR; intro w hR) | (refine' aJq hR rfl rfl rfl inferInstance rfl rfl ?_; clear hR; intro w hR) | (refine' xAq hR rfl rfl rfl inferInstance ?hm ?hn ?_; (case hm => first | with_reducible assumption | repeat (first | exact .head _ | with_reducible assumption | apply mC)); (case hn => first | rfl | simp)) | (refine' xAh hR rfl rfl rfl inferInstance ?hm ?hv ?_; (case hm => first | with_reducible assumption | repeat (first | exact .head _ | with_reducible assumption | apply mC)); (case hv => first | rfl | with_reducible assumption)) | (refine' xAs hR rfl rfl rfl inferInstance ?hm ?hv ?hn ?_; (case hm => first | with_reducible assumption | repeat (first | exact .head _ | with_reducible assumption | apply mC)); (case hv => first | with_reducible assumption | (simp only [kC, kD, kE, kF]; try rfl)); (case hn => first | rfl | simp)) | (go_at_call 18; refine (alive12 _).mono ?_; rintro e w ⟨rfl, hb⟩; replace hR := hR.call hb; clear hb))
    go_ret
    exact ⟨rfl, hR.below⟩
  have z1 : ((n : Int) == 0) = false := by simp; omega
  have z2 : ¬ (n : Int) = 0 := by omega
  by_cases hf : fineD p q g h n f
  case neg =>
    have cF := fun (L : List (Nat × Obj)) (w : World) (hw : Rep W.heap.size W L w) => fine12_rep hp hq hg hh (S1.any (L := L)) (by omega) false ⟨fun hx => (by cases hx), fun hx => absurd hx hf⟩ hw
    clear S1 hp hq hg hh h7 hf h0
    go_enter Try.func7, Try.ntmps7
    go_wp2_with (first | go_skip | (refine' xAb hR rfl rfl rfl ?_; clear hR; intro blk w hR) | (refine' xAa hR rfl rfl inferInstance ?_; clear hR; intro blk w hR) | (refine' aFq hR rfl rfl rfl inferInstance ?_) | (refine' aGq hR rfl rfl rfl inferInstance ?_) | (refine' aHq hR rfl rfl rfl inferInstance ?_) | (refine' aIq hR rfl rfl rfl inferInstance rfl ?_; clear hR; intro w hR) | (refine' aJq hR rfl rfl rfl inferInstance rfl rfl ?_; clear hR; intro w hR) | (refine' xAq hR rfl rfl rfl inferInstance ?hm ?hn ?_; (case hm => first | with_reducible assumption | repeat (first | exact .head _ | with_reducible assumption | apply mC)); (case hn => first | rfl | simp)) | (refine' xAh hR rfl rfl rfl inferInstance ?hm ?hv ?_; (case hm => first | with_reducible assumption | repeat (first | exact .head _ | with_reducible assumption | apply mC)); (case hv => first | rfl | with_reducible assumption)) | (refine' xAs hR rfl rfl rfl inferInstance ?hm ?hv ?hn ?_; (case hm => first | with_reducible assumption | repeat (first | exact .head _ | with_reducible assumption | apply mC)); (case hv => first | with_reducible assumption | (simp only [kC, kD, kE, kF]; try rfl)); (case hn => first | rfl | simp)) | (go_at_call 18; refine (alive12 _).mono ?_; rintro e w ⟨rfl, hb⟩; replace hR := hR.call hb; clear hb) | (go_at_call 19; refine (cF _ _ hR).mono ?_; clear hR; rintro e w ⟨rfl, hR⟩))
    go_ret
    exact ⟨rfl, hR.below⟩
  have cF := fun (L : List (Nat × Obj)) (w : World) (hw : Rep W.heap.size W L w) => fine12_rep hp hq hg hh (S1.any (L := L)) (by omega) true ⟨fun _ => hf, fun _ => rfl⟩ hw
  have hs : xCk q := hf.1.2.2.2.1
  have q1 : 1 < q := hs.1
  have hd : difOK q n := dif_small hs (by have := hf.2.1; omega)
  replace S1 := Held.mk S1
  replace hf := Held.mk hf
  replace hd := Held.mk hd
  replace h7 := Held.mk h7
  replace h0 := Held.mk h0
  clear hs hh
  obtain ⟨on, rfl⟩ : ∃ on : Nat, oi = (on : Int) := ⟨oi.toNat, by omega⟩
  obtain ⟨k0, hk0⟩ : ∃ k0, on % n = k0 := ⟨_, rfl⟩
  have lk0 : k0 < n := by rw [← hk0]; exact Nat.mod_lt _ (by have := h0.out; omega)
  have ec : IntKind.i64.wrap (on : Int) = (on : Int) := by rw [IntKind.wrap_i64]; omega
  have em : (on : Int).tmod (n : Int) = (k0 : Int) := by rw [Int.tmod_eq_emod_of_nonneg (by omega), ← hk0]; omega
  have ew : IntKind.i64.wrap (k0 : Int) = (k0 : Int) := by have := h7.out; rw [IntKind.wrap_i64]; omega
  have ew1 : IntKind.i64.wrap (1 + (k0 : Int)) = ((k0 + 1 : Nat) : Int) := by have := h7.out; rw [IntKind.wrap_i64]; omega
  obtain ⟨k, hk⟩ : ∃ k, k0 + 1 = k := ⟨_, rfl⟩
  rw [hk] at ew1
  have hk1 : 1 ≤ k := by omega
  have hkn : k ≤ n := by omega
  replace hk1 := Held.mk hk1
  replace hkn := Held.mk hkn
  clear hk lk0 hk0 ho
  go_enter Try.func7, Try.ntmps7
  go_wp2_with (first | go_skip | (refine' xAb hR rfl rfl rfl ?_; clear hR; intro blk w hR) | (refine' xAa hR rfl rfl inferInstance ?_; clear hR; intro blk w hR) | (refine' aFq hR rfl rfl rfl inferInstance ?_) | (refine' aGq hR rfl rfl rfl inferInstance ?_) | (refine' aHq hR rfl rfl rfl inferInstance ?_) | (refine' aIq hR rfl rfl rfl inferInstance rfl ?_; clear hR; intro w hR) | (refine' aJq hR rfl rfl rfl inferInstance rfl rfl ?_; clear hR; intro w hR) | (refine' xAq hR rfl rfl rfl inferInstance ?hm ?hn ?_; (case hm => first | with_reducible assumption | repeat (first | exact .head _ | with_reducible assumption | apply mC)); (case hn => first | rfl | simp)) | (refine' xAh hR rfl rfl rfl inferInstance ?hm ?hv ?_; (case hm => first | with_reducible assumption | repeat (first | exact .head _ | with_reducible assumption | apply mC)); (case hv => first | rfl | with_reducible assumption)) | (refine' xAs hR rfl rfl rfl inferInstance ?hm ?hv ?hn ?_; (case hm => first | with_reducible assumption | repeat (first | exact .head _ | with_reducible assumption | apply mC)); (case hv => first | with_reducible assumption | (simp only [kC, kD, kE, kF]; try rfl)); (case hn => first | rfl | simp)) | (go_at_call 18; refine (alive12 _).mono ?_; rintro e w ⟨rfl, hb⟩; replace hR := hR.call hb; clear hb) | (go_at_call 19; refine (cF _ _ hR).mono ?_; clear hR; rintro e w ⟨rfl, hR⟩))
  clear cF t1 t1d z1 z2 ec em ew ew1
  obtain ⟨b2, hb_⟩ : ∃ y, y = blk := ⟨_, rfl⟩
  subst hb_
  try simp only [Act.put, kA, kB, List.setIfInBounds_toArray]
  refine' xBt (false :: false :: false :: false :: false :: false :: false :: false :: false :: false :: false :: false :: false :: false :: false :: false :: false :: false :: false :: false :: false :: false :: false :: false :: false :: false :: false :: false :: false :: false :: false :: false :: false :: false :: false :: false :: false :: false :: false :: true :: true :: true :: true :: true :: true :: true :: true :: true :: true :: true :: false :: false :: false :: false :: false :: false :: false :: false :: false :: false :: false :: false :: false :: false :: false :: false :: false :: false :: false :: false :: false :: false :: false :: false :: false :: false :: false :: false :: false :: false :: false :: false :: false :: []) (fun (v : Nat × GrN) l => (l.set 8 (.slice v.2.a v.1 v.2.cap)).set 9 (.int .i64 ((v.1 : Int) + 1))) (fun v => (b2, .cells (gl p q g h).toArray 26) :: v.2.bl) (fun v => k - v.1) (fun v => v.1 ≤ k ∧ GrNOk v.2 v.1 (ptF q)) (0, ⟨none, 0, []⟩) ?h0 ?hO ?hR ?hs
  case h0 => exact xBh rfl rfl rfl
  case hO => exact ⟨Nat.zero_le _, grN_zero _⟩
  case hR => exact hR
  case hs =>
    clear hR
    intro v tm w hO ht hR K hK
    obtain ⟨i, X0⟩ := v
    obtain ⟨hi, hX⟩ := hO
    simp only at hi hX ht hR
    have g0 : 0 ≤ (i : Int) := by omega
    by_cases hik : i = k
    case neg =>
      have u1 : (i : Int) + 1 ≤ (k : Int) := by omega
      have ei : IntKind.i64.wrap ((i : Int) + 1 + 1) = (i : Int) + 1 + 1 := by have := h7.out; have := hkn.out; rw [IntKind.wrap_i64]; omega
      have ek : ((i + 1 : Nat) : Int) = (i : Int) + 1 := by omega
      have hi1 : i + 1 ≤ k := by omega
      have hmu : k - (i + 1) < k - i := by omega
      have hbig : i ≤ 1000000 := by have := h7.out; have := hkn.out; omega
      obtain ⟨x0, hx0⟩ : ∃ x, ptF q i = x := ⟨_, rfl⟩
      have cO := SO (p := p) (g := g) (h := h) (n := (i : Int) + 1) hq (by omega) (by have := h7.out; have := hkn.out; omega) hx0
      replace hx0 := Held.mk hx0
      replace hi1 := Held.mk hi1
      replace hmu := Held.mk hmu
      replace ek := Held.mk ek
      clear hi hik
      repeat (first | (obtain ⟨x, tm', e, ht'⟩ := xAu ht; clear ht; subst e; have ht := ht'; clear ht') | (obtain ⟨tm', e, ht'⟩ := xAj ht; clear ht; subst e; have ht := ht'; clear ht'))
      obtain rfl := xAz ht
      clear ht
      go_wp2_with (first | (refine' xAb hR rfl rfl rfl ?_; clear hR; intro blk w hR) | (refine' xAa hR rfl rfl inferInstance ?_; clear hR; intro blk w hR) | (refine' aFq hR rfl rfl rfl inferInstance ?_) | (refine' aGq hR rfl rfl rfl inferInstance ?_) | (refine' aHq hR rfl rfl rfl inferInstance ?_) | (refine' aIq hR rfl rfl rfl inferInstance rfl ?_; clear hR; intro w hR) | (refine' aJq hR rfl rfl rfl inferInstance rfl rfl ?_; clear hR; intro w hR) | (go_at_call 13; refine (cO _).mono ?_; rintro e w ⟨rfl, hb⟩; replace hR := hR.call hb; clear hb) | (refine' wpList_new hR (xCu rfl rfl rfl) ?_; clear hR; intro bt w hR) | (refine' wpList_appendN (L' := fun l => (b2, .cells (gl p q g h).toArray 26) :: l) hR (fun l => List.perm_append_comm (l₁ := [_])) rfl rfl rfl rfl hX hx0.out hbig ?_; clear hR hX; intro X1 w hX hR))
      exact hK.out (i + 1, X1) _ _ ⟨hi1.out, hX⟩ hmu.out (by simp only [ek.out]; exact xBh rfl rfl rfl) hR
    rw [hik] at hX ht
    clear hK hik hi g0 i
    have u1 : ¬ (k : Int) + 1 ≤ (k : Int) := by omega
    obtain ⟨bv, ov, rfl, hyv⟩ := S1.out.at' h0.out
    have cl := fun (w : World) => cut_front S1.out hkn.out hk1.out w
    have hdk : difOK q k := fun i j hi hj hij => hd.out i j (by have := hkn.out; omega) (by have := hkn.out; omega) hij
    have cT := fun (w : World) (hw : Rep W.heap.size W ((b2, .cells (gl p q g h).toArray 26) :: X0.bl) w) => through_yes (g := g) (h := h) hp hq (by have := h7.out; have := hkn.out; omega) (grN_nat hX (fun j _ => Nat.lt_trans (ptF_lt q1 j) hq) (fun x hx => .tail _ hx)) ((S1.out.take hkn.out).any (L := (b2, .cells (gl p q g h).toArray 26) :: X0.bl)) (⟨dif_pts q1 hdk hk1.out, rfl, fun j hj => hf.out.2.2 j (by have := hkn.out; omega)⟩ : okT q k k (ptF q) f) (dif_wtE' q1 hdk) hw
    clear hyv
    replace hX := Held.mk hX
    repeat (first | (obtain ⟨x, tm', e, ht'⟩ := xAu ht; clear ht; subst e; have ht := ht'; clear ht') | (obtain ⟨tm', e, ht'⟩ := xAj ht; clear ht; subst e; have ht := ht'; clear ht'))
    obtain rfl := xAz ht
    clear ht
    go_wp2_with (first | (refine' xAb hR rfl rfl rfl ?_; clear hR; intro blk w hR) | (refine' xAa hR rfl rfl inferInstance ?_; clear hR; intro blk w hR) | (refine' aFq hR rfl rfl rfl inferInstance ?_) | (refine' aGq hR rfl rfl rfl inferInstance ?_) | (refine' aHq hR rfl rfl rfl inferInstance ?_) | (refine' aIq hR rfl rfl rfl inferInstance rfl ?_; clear hR; intro w hR) | (refine' aJq hR rfl rfl rfl inferInstance rfl rfl ?_; clear hR; intro w hR) | fail)
    rename_i K5 k5
    try simp only [Act.put, kA, kB, List.setIfInBounds_toArray]
    refine xCa hR 11 xCf rfl ?_
    clear hR
    refine fHeads [(b2, Obj.cells (gl p q g h).toArray 26)] [1, 1, 1, 1, 1, 2, 2, 2, 2, 2, 2] 6 rfl (by repeat (first | exact xBg | refine xAv (by repeat (first | exact .head _ | with_reducible assumption | apply mC)) ?_)) (by repeat (first | exact xBg | refine xAv (by repeat (first | exact .head _ | with_reducible assumption | apply mC)) ?_)) rfl (by decide +kernel) (fun K hK => ?_)
    repeat ((first | (refine' xCi rfl rfl rfl inferInstance ?hm ?hn ?ha ?_; (case hm => exact .head _); (case hn => rfl)) | (refine' xBa (by decide) rfl rfl rfl rfl rfl rfl cl ?ha ?_) | (refine xBl ?_) | (refine' xAr (by decide) rfl (.inl rfl) rfl ?ha ?_) | (refine' xAr (by decide) rfl (.inr rfl) rfl ?ha ?_) | (refine' xAp rfl rfl rfl inferInstance ?hm ?hn ?ha ?_; (case hm => first | with_reducible assumption | repeat (first | exact .head _ | with_reducible assumption | apply mC)); (case hn => first | rfl | simp)) | (refine' xAk rfl rfl rfl inferInstance ?hm ?hv ?hn ?ha ?_; (case hm => first | with_reducible assumption | repeat (first | exact .head _ | with_reducible assumption | apply mC)); (case hv => first | with_reducible assumption | (simp only [kC, kD, kE, kF]; try rfl)); (case hn => first | rfl | simp)) | (refine' xAf rfl rfl rfl inferInstance ?hm ?hv ?ha ?_; (case hm => first | with_reducible assumption | repeat (first | exact .head _ | with_reducible assumption | apply mC)); (case hv => first | rfl | with_reducible assumption)) | (refine' xAl rfl rfl rfl inferInstance ?hm ?hv ?hn ?ha ?_; (case hm => first | with_reducible assumption | repeat (first | exact .head _ | with_reducible assumption | apply mC)); (case hv => first | with_reducible assumption | (simp only [kC, kD, kE, kF]; try rfl)); (case hn => first | rfl | simp)) | (refine' xAe rfl rfl rfl inferInstance ?hm ?hv ?ha ?_; (case hm => first | with_reducible assumption | repeat (first | exact .head _ | with_reducible assumption | apply mC)); (case hv => first | rfl | with_reducible assumption)) | ((first | refine' xAd (by decide) rfl rfl rfl rfl (fun w => ?hq) ?ha ?_ | refine' xBb (by decide) rfl rfl rfl rfl (fun w => ?hq) ?ha ?_ | refine' xAm (by decide) rfl rfl rfl (fun w => ?hq) ?ha ?_ | refine' xAc (by decide) rfl rfl rfl (fun w => ?hq) ?ha ?_ | refine' xAo (by decide) rfl rfl rfl (fun w => ?hq) ?ha ?_ | refine' xBd (by decide) rfl rfl rfl rfl (fun w => ?hq) ?ha ?_ | refine' xBa (by decide) rfl rfl rfl rfl rfl rfl (fun w => ?hq) ?ha ?_ | refine' xBe (by decide) rfl rfl (fun w => ?hq) ?ha ?_ | refine' xAn (by decide) rfl rfl rfl (fun w => ?hq) ?ha ?_ | refine' xBc (by decide) rfl rfl rfl (fun w => ?hq) ?ha ?_); (case hq => go_simp; try rfl)) | (refine' xAg (by decide) rfl rfl rfl ?ha ?_) | (refine' xBk (by decide) rfl rfl rfl rfl ?ha ?_) | (refine' xBm (by decide) rfl ?ha ?_)); try (case ha => simp only [kP, kQ, kA, kB]; try rfl))
    refine xBp (hK _ _ ?_)
    clear hK K
    try simp only [Act.put, kA, kB, List.setIfInBounds_toArray]
    refine f_at [5] (by decide +kernel) rfl ?_
    refine f_is 5 ?_
    refine f_call (fun v M => ∃ gb, ∃ cur : List Value, v = .tuple #[.slice (some ⟨gb, 0, none⟩) k k, .int .i64 0] ∧ NOwn k cur k (outF q k (ptF q) f k) ∧ M = (gb, .cells cur.toArray 24) :: (b2, .cells (gl p q g h).toArray 26) :: X0.bl) rfl rfl rfl rfl rfl (xBi Try.func11 (by kernel_rfl) (by kernel_rfl) _) (fun w hw => (cT w hw).mono fun e w' ⟨gb, h1, cur, h2, h3⟩ => ⟨_, h1, _, ⟨gb, cur, rfl, h2, rfl⟩, h3⟩) ?_ xCm
    rintro v M ⟨gb, cur, rfl, hoT, rfl⟩
    refine ⟨(by repeat (first | exact xBg | refine xAv (by repeat (first | exact .head _ | with_reducible assumption | apply mC | apply List.mem_append_left)) ?_)), ?_⟩
    simp only [Act.put, kA, kB, List.setIfInBounds_toArray]
    refine f_at [6] (by decide +kernel) rfl ?_
    refine f_is 6 ?_
    refine f_y rfl rfl (xBn rfl (.inr rfl) rfl) (by repeat (first | exact xBg | refine xAv (by repeat (first | exact .head _ | with_reducible assumption | apply mC | apply List.mem_append_left)) ?_)) ?_ xCm
    simp only [Act.put, kA, kB, List.setIfInBounds_toArray]
    refine fHeads [(b2, Obj.cells (gl p q g h).toArray 26)] [2, 2, 2, 2, 2, 2, 2, 1, 1, 2, 2] 2 rfl (by repeat (first | exact xBg | refine xAv (by repeat (first | exact .head _ | with_reducible assumption | apply mC)) ?_)) (by repeat (first | exact xBg | refine xAv (by repeat (first | exact .head _ | with_reducible assumption | apply mC)) ?_)) rfl (by decide +kernel) (fun K hK => ?_)
    repeat ((first | (refine xBl ?_) | (refine' xAr (by decide) rfl (.inl rfl) rfl ?ha ?_) | (refine' xAr (by decide) rfl (.inr rfl) rfl ?ha ?_) | (refine' xAp rfl rfl rfl inferInstance ?hm ?hn ?ha ?_; (case hm => first | with_reducible assumption | repeat (first | exact .head _ | with_reducible assumption | apply mC)); (case hn => first | rfl | simp)) | (refine' xAk rfl rfl rfl inferInstance ?hm ?hv ?hn ?ha ?_; (case hm => first | with_reducible assumption | repeat (first | exact .head _ | with_reducible assumption | apply mC)); (case hv => first | with_reducible assumption | (simp only [kC, kD, kE, kF]; try rfl)); (case hn => first | rfl | simp)) | (refine' xAf rfl rfl rfl inferInstance ?hm ?hv ?ha ?_; (case hm => first | with_reducible assumption | repeat (first | exact .head _ | with_reducible assumption | apply mC)); (case hv => first | rfl | with_reducible assumption)) | (refine' xAl rfl rfl rfl inferInstance ?hm ?hv ?hn ?ha ?_; (case hm => first | with_reducible assumption | repeat (first | exact .head _ | with_reducible assumption | apply mC)); (case hv => first | with_reducible assumption | (simp only [kC, kD, kE, kF]; try rfl)); (case hn => first | rfl | simp)) | (refine' xAe rfl rfl rfl inferInstance ?hm ?hv ?ha ?_; (case hm => first | with_reducible assumption | repeat (first | exact .head _ | with_reducible assumption | apply mC)); (case hv => first | rfl | with_reducible assumption)) | ((first | refine' xAd (by decide) rfl rfl rfl rfl (fun w => ?hq) ?ha ?_ | refine' xBb (by decide) rfl rfl rfl rfl (fun w => ?hq) ?ha ?_ | refine' xAm (by decide) rfl rfl rfl (fun w => ?hq) ?ha ?_ | refine' xAc (by decide) rfl rfl rfl (fun w => ?hq) ?ha ?_ | refine' xAo (by decide) rfl rfl rfl (fun w => ?hq) ?ha ?_ | refine' xBd (by decide) rfl rfl rfl rfl (fun w => ?hq) ?ha ?_ | refine' xBa (by decide) rfl rfl rfl rfl rfl rfl (fun w => ?hq) ?ha ?_ | refine' xBe (by decide) rfl rfl (fun w => ?hq) ?ha ?_ | refine' xAn (by decide) rfl rfl rfl (fun w => ?hq) ?ha ?_ | refine' xBc (by decide) rfl rfl rfl (fun w => ?hq) ?ha ?_); (case hq => go_simp; try rfl)) | (refine' xAg (by decide) rfl rfl rfl ?ha ?_) | (refine' xBk (by decide) rfl rfl rfl rfl ?ha ?_) | (refine' xBm (by decide) rfl ?ha ?_) | fail); try (case ha => simp only [kP, kQ, kA, kB]; try rfl))
    refine xBp (hK _ _ ?_)
    clear hK K
    try simp only [Act.put, kA, kB, List.setIfInBounds_toArray]
    refine f_at [9] (by decide +kernel) rfl ?_
    refine f_is 9 ?_
    refine f_y rfl rfl (xBn rfl (.inl rfl) rfl) (by repeat (first | exact xBg | refine xAv (by repeat (first | exact .head _ | with_reducible assumption | apply mC | apply List.mem_append_left)) ?_)) ?_ xCm
    simp only [Act.put, kA, kB, List.setIfInBounds_toArray]
    refine f_at [10] (by decide +kernel) rfl ?_
    refine f_is 10 ?_
    refine f_y rfl rfl (xBn rfl (.inl rfl) rfl) (by repeat (first | exact xBg | refine xAv (by repeat (first | exact .head _ | with_reducible assumption | apply mC | apply List.mem_append_left)) ?_)) ?_ xCm
    simp only [Act.put, kA, kB, List.setIfInBounds_toArray]
    refine f_end (by decide +kernel) (fun w hR => ?_)
    simp only [Exit.then]
    refine k5 _ _ ?_
    clear cT cl
    have lP : ∀ j, outF q k (ptF q) f k j < q := fun j => outF_lt q1 k j
    have cP := fun (s : Bool) (hs : s = true ↔ passD q n k f) (w : World) (hw : Rep W.heap.size W ((gb, .cells cur.toArray 24) :: (b2, .cells (gl p q g h).toArray 26) :: X0.bl) w) => passes_fine hp hq hg hf.out (S1.out.any (L := (gb, .cells cur.toArray 24) :: (b2, .cells (gl p q g h).toArray 26) :: X0.bl)) (by have := h0.out; omega) h7.out hk1.out hkn.out s hs hw
    have cV := fun (w : World) (hw : Rep W.heap.size W ((gb, .cells cur.toArray 24) :: (b2, .cells (gl p q g h).toArray 26) :: X0.bl) w) => values_rep (g := g) (h := h) (m := n) hp hq q1 (hoT.at (B0 := W.heap.size) (w0 := W) (.head _) (Nat.le_refl _) (fun j _ => Nat.lt_trans (lP j) hq)) (by have := h7.out; have := hkn.out; omega) (fun j _ => lP j) (by have := h7.out; omega) hw
    have cS := fun (s : Bool) (hs : s = true ↔ passD q n k f) (Y : GrN) (hY : GrNOk Y n (valF q k (outF q k (ptF q) f k))) (w : World) (hw : Rep W.heap.size W (Y.bl ++ ((gb, .cells cur.toArray 24) :: (b2, .cells (gl p q g h).toArray 26) :: X0.bl)) w) => same_nums (grN_nat hY (fun j _ => Nat.lt_trans (atN_lt q1 _ _ _) hq) (fun x hx => List.mem_append_left _ hx)) (S1.out.any (L := Y.bl ++ ((gb, .cells cur.toArray 24) :: (b2, .cells (gl p q g h).toArray 26) :: X0.bl))) (by have := h7.out; omega) s (by rw [hs, all_pass q1 hd.out hf.out.2.2 hk1.out hkn.out]; exact ⟨fun hx => ⟨rfl, hx⟩, fun hx => hx.2⟩) hw
    have m2 : ∀ (Y : GrN), (b2, Obj.cells (gl p q g h).toArray 26) ∈ Y.bl ++ ((gb, .cells cur.toArray 24) :: (b2, .cells (gl p q g h).toArray 26) :: X0.bl) := fun Y => List.mem_append_right _ (.tail _ (.head _))
    by_cases hpass : passD q n k f
    · have c1 := cP true ⟨fun _ => hpass, fun _ => rfl⟩
      have c3 := cS true ⟨fun _ => hpass, fun _ => rfl⟩
      clear cP cS hpass hoT
      go_wp2_with (first | go_skip | (refine' xAb hR rfl rfl rfl ?_; clear hR; intro blk w hR) | (refine' xAa hR rfl rfl inferInstance ?_; clear hR; intro blk w hR) | (refine' aFq hR rfl rfl rfl inferInstance ?_) | (refine' aGq hR rfl rfl rfl inferInstance ?_) | (refine' aHq hR rfl rfl rfl inferInstance ?_) | (refine' aIq hR rfl rfl rfl inferInstance rfl ?_; clear hR; intro w hR) | (refine' aJq hR rfl rfl rfl inferInstance rfl rfl ?_; clear hR; intro w hR) | (refine' xAq hR rfl rfl rfl inferInstance ?hm ?hn ?_; (case hm => first | with_reducible assumption | repeat (first | exact .head _ | with_reducible assumption | apply mC)); (case hn => first | rfl | simp)) | (refine' xAh hR rfl rfl rfl inferInstance ?hm ?hv ?_; (case hm => first | with_reducible assumption | repeat (first | exact .head _ | with_reducible assumption | apply mC)); (case hv => first | rfl | with_reducible assumption)) | (refine' xAs hR rfl rfl rfl inferInstance ?hm ?hv ?hn ?_; (case hm => first | with_reducible assumption | repeat (first | exact .head _ | with_reducible assumption | apply mC)); (case hv => first | with_reducible assumption | (simp only [kC, kD, kE, kF]; try rfl)); (case hn => first | rfl | simp)) | (go_at_call 21; refine (c1 _ hR).mono ?_; clear hR; rintro e w ⟨rfl, hR⟩) | (go_at_call 20; refine (cV _ hR).mono ?_; clear hR; rintro e w ⟨Y, rfl, hY, hR⟩; replace hY := Held.mk hY) | (go_at_call 12; refine (c3 _ hY.out _ hR).mono ?_; clear hR; rintro e w ⟨rfl, hR⟩))
      go_ret
      exact ⟨rfl, hR.below⟩
    · have c1 := cP false ⟨fun hx => (by cases hx), fun hx => absurd hx hpass⟩
      have c3 := cS false ⟨fun hx => (by cases hx), fun hx => absurd hx hpass⟩
      clear cP cS hpass hoT
      go_wp2_with (first | go_skip | (refine' xAb hR rfl rfl rfl ?_; clear hR; intro blk w hR) | (refine' xAa hR rfl rfl inferInstance ?_; clear hR; intro blk w hR) | (refine' aFq hR rfl rfl rfl inferInstance ?_) | (refine' aGq hR rfl rfl rfl inferInstance ?_) | (refine' aHq hR rfl rfl rfl inferInstance ?_) | (refine' aIq hR rfl rfl rfl inferInstance rfl ?_; clear hR; intro w hR) | (refine' aJq hR rfl rfl rfl inferInstance rfl rfl ?_; clear hR; intro w hR) | (refine' xAq hR rfl rfl rfl inferInstance ?hm ?hn ?_; (case hm => first | with_reducible assumption | repeat (first | exact .head _ | with_reducible assumption | apply mC)); (case hn => first | rfl | simp)) | (refine' xAh hR rfl rfl rfl inferInstance ?hm ?hv ?_; (case hm => first | with_reducible assumption | repeat (first | exact .head _ | with_reducible assumption | apply mC)); (case hv => first | rfl | with_reducible assumption)) | (refine' xAs hR rfl rfl rfl inferInstance ?hm ?hv ?hn ?_; (case hm => first | with_reducible assumption | repeat (first | exact .head _ | with_reducible assumption | apply mC)); (case hv => first | with_reducible assumption | (simp only [kC, kD, kE, kF]; try rfl)); (case hn => first | rfl | simp)) | (go_at_call 21; refine (c1 _ hR).mono ?_; clear hR; rintro e w ⟨rfl, hR⟩) | (go_at_call 20; refine (cV _ hR).mono ?_; clear hR; rintro e w ⟨Y, rfl, hY, hR⟩; replace hY := Held.mk hY) | (go_at_call 12; refine (c3 _ hY.out _ hR).mono ?_; clear hR; rintro e w ⟨rfl, hR⟩))
      go_ret
      exact ⟨rfl, hR.below⟩
end Go.Proofs.Ytgfoeongjhkdmaa
