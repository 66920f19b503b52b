import Derived.Test.YtaaahfjpnggkbaaGreatDoorHRef09
import Derived.Test.YtaaahfjpnggkbaaGreatDoorHZ
import Derived.Test.YtaaahfjpnggkbaaGreatDoorHQ
import Derived.Test.YtaaahfjpnggkbaaGreatDoorHB
set_option linter.unusedSimpArgs false
set_option linter.unusedVariables false
set_option maxRecDepth 100000
set_option maxHeartbeats 20000000
namespace Go.Proofs.YtaaahfjpnggkbaaGreatDoor
open Go.RowKit
section
attribute [local irreducible] Calls Instr.build Instr.buildSlice
section
variable {p q g h x y r : Nat}
theorem xDx {b : Bool} (hq : q < B) (ha : x < B) (hb : b = true ↔ 1 < q ∧ x < q) (w : World) : Calls Tryz.prog 41 #[grp p q g h, num x] w fun e' w' => e' = .returned (.bool b) ∧ Below w.heap.size w w' := by
 have a1 := fun w => rsadd_any (p := p) (g := g) (h := h) ha ha hq w
 cases b
 ·have hn : ¬ okM x x q := fun h => by have := hb.2 ⟨h.1, h.2.1⟩; cases this
  rw [if_neg hn, if_neg hn] at a1
  clear hn hb
  have hR := Rep.init w
  go_enter Tryz.func41, Tryz.ntmps41
  go_wp2_with (first | (refine' aAq hR ?_; clear hR; intro blk w hR) | (refine' aBq hR ?_; clear hR; intro blk w hR) | (refine' aNq hR ?_) | (refine' aFq hR ?_; clear hR; intro w hR) | (go_at_call 129; refine (a1 _).mono ?_; rintro e w ⟨rfl, hb⟩; replace hR := hR.call hb; clear hb))
  go_ret
  exact ⟨rfl, hR.below⟩
 ·have hn : okM x x q := ⟨(hb.1 rfl).1, (hb.1 rfl).2, (hb.1 rfl).2⟩
  rw [if_pos hn, if_pos hn] at a1
  generalize (x + x) % q = z at *
  clear hn hb
  have hR := Rep.init w
  go_enter Tryz.func41, Tryz.ntmps41
  go_wp2_with (first | (refine' aAq hR ?_; clear hR; intro blk w hR) | (refine' aBq hR ?_; clear hR; intro blk w hR) | (refine' aNq hR ?_) | (refine' aFq hR ?_; clear hR; intro w hR) | (go_at_call 129; refine (a1 _).mono ?_; rintro e w ⟨rfl, hb⟩; replace hR := hR.call hb; clear hb))
  go_ret
  exact ⟨rfl, hR.below⟩
theorem rplus_lit (h1 : 1 < q) (hq : q < B) (ha : x < q) (hb : y < q) (hr : (x + y) % q = r) (w : World) : Calls Tryz.prog 43 #[grp p q g h, num x, num y] w fun e' w' => e' = .returned (num r) ∧ Below w.heap.size w w' := by
 have c1 := fun w => rsadd_any (p := p) (g := g) (h := h) (Nat.lt_trans ha hq) (Nat.lt_trans hb hq) hq w
 rw [if_pos (show okM x y q from ⟨h1, ha, hb⟩), if_pos (show okM x y q from ⟨h1, ha, hb⟩), hr] at c1
 clear ha hb hr h1
 have hR := Rep.init w
 go_enter Tryz.func43, Tryz.ntmps43
 go_wp2_with (first | (refine' aAq hR ?_; clear hR; intro blk w hR) | (refine' aBq hR ?_; clear hR; intro blk w hR) | (refine' aNq hR ?_) | (refine' aFq hR ?_; clear hR; intro w hR) | (go_at_call 129; refine (c1 _).mono ?_; rintro e w ⟨rfl, hb⟩; replace hR := hR.call hb; clear hb))
 (refine' bodyPost_ret (xAq Tryz.results43 rfl (hR.loadAll (P := Tryz.prog) (ty := 24) ?hm ?hn)) rfl ⟨?_, hR.below⟩; (case hm => first | with_reducible assumption | repeat (first | exact .head _ | with_reducible assumption | apply mC)); (case hn => first | rfl | simp))
 rfl
theorem rless_lit (h1 : 1 < q) (hq : q < B) (ha : x < q) (hb : y < q) (hr : subN x y q = r) (w : World) : Calls Tryz.prog 47 #[grp p q g h, num x, num y] w fun e' w' => e' = .returned (num r) ∧ Below w.heap.size w w' := by
 have c1 := fun w => rssub_any (p := p) (g := g) (h := h) (Nat.lt_trans ha hq) (Nat.lt_trans hb hq) hq w
 rw [if_pos (show okM x y q from ⟨h1, ha, hb⟩), if_pos (show okM x y q from ⟨h1, ha, hb⟩), hr] at c1
 clear ha hb hr h1
 have hR := Rep.init w
 go_enter Tryz.func47, Tryz.ntmps47
 go_wp2_with (first | (refine' aAq hR ?_; clear hR; intro blk w hR) | (refine' aBq hR ?_; clear hR; intro blk w hR) | (refine' aNq hR ?_) | (refine' aFq hR ?_; clear hR; intro w hR) | (go_at_call 133; refine (c1 _).mono ?_; rintro e w ⟨rfl, hb⟩; replace hR := hR.call hb; clear hb))
 (refine' bodyPost_ret (xAq Tryz.results47 rfl (hR.loadAll (P := Tryz.prog) (ty := 24) ?hm ?hn)) rfl ⟨?_, hR.below⟩; (case hm => first | with_reducible assumption | repeat (first | exact .head _ | with_reducible assumption | apply mC)); (case hn => first | rfl | simp))
 rfl
theorem xGp (h1 : 1 < q) (hq : q < B) (ha : x < q) (hb : y < q) (hr : mulN x y q = r) (w : World) : Calls Tryz.prog 44 #[grp p q g h, num x, num y] w fun e' w' => e' = .returned (num r) ∧ Below w.heap.size w w' := by
 have c1 := fun w => rsmul_any (p := p) (g := g) (h := h) (Nat.lt_trans ha hq) (Nat.lt_trans hb hq) hq w
 rw [if_pos (show okM x y q from ⟨h1, ha, hb⟩), if_pos (show okM x y q from ⟨h1, ha, hb⟩), hr] at c1
 clear ha hb hr h1
 have hR := Rep.init w
 go_enter Tryz.func44, Tryz.ntmps44
 go_wp2_with (first | (refine' aAq hR ?_; clear hR; intro blk w hR) | (refine' aBq hR ?_; clear hR; intro blk w hR) | (refine' aNq hR ?_) | (refine' aFq hR ?_; clear hR; intro w hR) | (go_at_call 108; refine (c1 _).mono ?_; rintro e w ⟨rfl, hb⟩; replace hR := hR.call hb; clear hb))
 (refine' bodyPost_ret (xAq Tryz.results44 rfl (hR.loadAll (P := Tryz.prog) (ty := 24) ?hm ?hn)) rfl ⟨?_, hR.below⟩; (case hm => first | with_reducible assumption | repeat (first | exact .head _ | with_reducible assumption | apply mC)); (case hn => first | rfl | simp))
 rfl
end
section
variable {p q g h : Nat} {B0 : Nat} {w0 w : World} {L : List (Nat × Obj)} {a : Option Addr} {n cp : Nat} {f : Nat → Nat}
theorem xId (hq : q < B) (hA : NAt B0 w0 L a n cp f) (hn : n ≤ 1000000) (s : Bool) (hs : s = true ↔ 1 < q ∧ ∀ j, j < n → f j < q) (hR : Rep B0 w0 L w) :
  Calls Tryz.prog 40 #[grp p q g h, .slice a n cp] w fun en w' => en = .returned (.bool s) ∧ Rep B0 w0 L w' := by
 classical
 obtain ⟨n0, h0⟩ : ∃ n, n = 0 := ⟨_, rfl⟩
 have L0 : n0 < B := lt_B (by omega)
 by_cases h1 : 1 < q
 case neg =>
  obtain rfl : s = false := by
   cases s
   ·rfl
   ·exact absurd (hs.1 rfl).1 h1
  have b0 := fun w => xDx (p := p) (g := g) (h := h) (b := false) hq L0 ⟨fun h => (by cases h), fun h => absurd h.1 h1⟩ w
  rw [show num n0 = Value.agg #[.int .u64 0, .int .u64 0, .int .u64 0, .int .u64 0] by rw [h0]; exact xBe.symm] at b0
  clear hA hs h1 h0 L0
  go_enter Tryz.func40, Tryz.ntmps40
  go_wp2_with (first | (refine' aAq hR ?_; clear hR; intro blk w hR) | (refine' aNq hR ?_) | (go_at_call 41; refine (b0 _).mono ?_; rintro e w ⟨rfl, hb⟩; replace hR := hR.call hb; clear hb))
  go_ret
  exact ⟨rfl, hR.drop1⟩
 have b0 := fun w => xDx (p := p) (g := g) (h := h) (b := true) hq L0 ⟨fun _ => ⟨h1, by omega⟩, fun _ => rfl⟩ w
 rw [show num n0 = Value.agg #[.int .u64 0, .int .u64 0, .int .u64 0, .int .u64 0] by rw [h0]; exact xBe.symm] at b0
 have bl := fun (x : Nat) (hx : x < B) (b : Bool) (hb : b = true ↔ x < q) (w : World) => xDx (p := p) (g := g) (h := h) (b := b) hq hx (hb.trans ⟨fun hh => ⟨h1, hh⟩, fun hh => hh.2⟩) w
 have hs' : s = true ↔ ∀ j, j < n → f j < q := hs.trans ⟨fun hh => hh.2, fun hh => ⟨h1, hh⟩⟩
 replace hs' := Held.mk hs'
 replace hA := Held.mk hA
 clear hs h1 h0 L0
 go_enter Tryz.func40, Tryz.ntmps40
 go_wp2_with (first | (refine' aAq hR ?_; clear hR; intro blk w hR) | (refine' aNq hR ?_) | (go_at_call 41; refine (b0 _).mono ?_; rintro e w ⟨rfl, hb⟩; replace hR := hR.call hb; clear hb))
 try simp only [Act.put, kA, kB, List.setIfInBounds_toArray]
 refine' xBo hR (false :: false :: false :: false :: false :: false :: false :: false :: false :: false :: true :: true :: true :: true :: true :: true :: true :: true :: true :: true :: true :: true :: true :: []) (fun (i : Nat) l => l.set 5 (.int .i64 (i : Int))) (fun i => n - i) (fun i => i ≤ n ∧ ∀ k, k < i → f k < q) 0 ?h0 ?hO ?hs
 case h0 => exact xAf rfl rfl rfl
 case hO => exact ⟨Nat.zero_le _, fun j hj => absurd hj (Nat.not_lt_zero j)⟩
 case hs =>
  clear hR b0
  intro i tm w hi ht hR K hK
  obtain ⟨hi, hall⟩ := hi
  replace hall := Held.mk hall
  have g0 : 0 ≤ (i : Int) := by omega
  by_cases hik : i = n
  ·subst hik
   have t1 : ¬ (i : Int) < (i : Int) := by omega
   obtain rfl : s = true := hs'.out.2 hall.out
   clear hK hi hA hs' hall bl
   repeat (first | (obtain ⟨x, tm', e, ht'⟩ := xAc ht; clear ht; subst e; have ht := ht'; clear ht') | (obtain ⟨tm', e, ht'⟩ := xAa ht; clear ht; subst e; have ht := ht'; clear ht'))
   obtain rfl := xAe ht
   clear ht
   go_wp2_with (fail)
   go_ret
   exact ⟨rfl, hR.drop1⟩
  ·have hin : i < n := by omega
   have g1 : (i : Int) < (n : Int) := by omega
   obtain ⟨bb, off, rfl, hx⟩ := hA.out.at' (by omega)
   have lf := hA.out.lt i hin
   have ld := fun (b3 : Nat) (w : World) (hw : Rep B0 w0 ((b3, .cells (gl p q g h).toArray 26) :: L) w) => xBc (hx w hw.drop1 i hin)
   obtain ⟨x, hxe⟩ : ∃ x, f i = x := ⟨_, rfl⟩
   rw [hxe] at ld lf
   by_cases hxq : x < q
   ·have b1 := bl x lf true ⟨fun _ => hxq, fun _ => rfl⟩
    have hnext : ∀ k, k < i + 1 → f k < q := fun k hk => by
     by_cases hki : k = i
     ·rw [hki, hxe]; exact hxq
     ·exact hall.out k (by omega)
    have ei : IntKind.i64.wrap ((i : Int) + 1) = ((i + 1 : Nat) : Int) := by rw [IntKind.wrap_i64]; omega
    have hi1 : i + 1 ≤ n := by omega
    have hmu : n - (i + 1) < n - i := by omega
    replace hi1 := Held.mk hi1
    replace hmu := Held.mk hmu
    replace hnext := Held.mk hnext
    clear hi hA hik hin hx hxe hall lf hs' hxq bl
    repeat (first | (obtain ⟨x, tm', e, ht'⟩ := xAc ht; clear ht; subst e; have ht := ht'; clear ht') | (obtain ⟨tm', e, ht'⟩ := xAa ht; clear ht; subst e; have ht := ht'; clear ht'))
    obtain rfl := xAe ht
    clear ht
    go_wp2_with (fail)
    refine xAd hR [0, 0, 0, 0, 0, 0, 0] [] xBd (by kernel_rfl) rfl rfl (fun K hK => ?_)
    clear hR
    repeat ((first | (refine' xAj (by decide) rfl (.inl rfl) rfl ?ha ?_) | (refine' aOq ?ha ?_) | ((refine' xAg (by decide) rfl rfl rfl rfl (fun w => ?hq) ?ha ?_); (case hq => go_simp; try rfl)) | (refine' xAn rfl rfl rfl (ld _) ?ha ?_; (case ha => simp only [kP, kQ, kA, kB]; try rfl)) | (refine' xAk rfl rfl rfl (xAi Tryz.func41 (by kernel_rfl) (by kernel_rfl) _) (fun w => b1 w) ?ha ?_) | (refine' xDy (by decide) rfl rfl rfl (fun w => ?hq) ?ha ?_; (case hq => go_simp; try rfl); (case ha => simp only [kP, kQ, kA, kB]; try rfl))); try (case ha => simp only [kP, kQ, kA, kB]; try rfl))
    refine xAo (hK _ _ ?_)
    clear hK K
    refine xAr (fun Q hQ => ?_)
    try simp only [List.nil_append, List.cons_append]
    repeat ((fail); (case hk => intro p hp; first | exact absurd hp List.not_mem_nil | (obtain rfl := List.mem_singleton.1 hp; repeat (first | exact List.Mem.head _ | with_reducible assumption | apply mC))); (case ha => simp only [kP, kQ, kA, kB]; try rfl))
    refine xAs (fun w hR => hQ _ _ ?_)
    clear hQ Q
    go_wp2_with (fail)
    exact hK.out (i + 1) _ _ ⟨hi1.out, hnext.out⟩ hmu.out (xAf rfl rfl rfl) hR
   ·have b1 := bl x lf false ⟨fun h => (by cases h), fun h => absurd h hxq⟩
    obtain rfl : s = false := by
     cases s
     ·rfl
     ·exact absurd (hxe ▸ hs'.out.1 rfl i hin) hxq
    clear hK hi hA hik hin hx hxe hall lf hs' hxq bl
    repeat (first | (obtain ⟨x, tm', e, ht'⟩ := xAc ht; clear ht; subst e; have ht := ht'; clear ht') | (obtain ⟨tm', e, ht'⟩ := xAa ht; clear ht; subst e; have ht := ht'; clear ht'))
    obtain rfl := xAe ht
    clear ht
    go_wp2_with (fail)
    refine xAd hR [0, 0, 0, 0, 0, 0, 0] [] xBd (by kernel_rfl) rfl rfl (fun K hK => ?_)
    clear hR
    repeat ((first | (refine' xAj (by decide) rfl (.inl rfl) rfl ?ha ?_) | (refine' aOq ?ha ?_) | ((refine' xAg (by decide) rfl rfl rfl rfl (fun w => ?hq) ?ha ?_); (case hq => go_simp; try rfl)) | (refine' xAn rfl rfl rfl (ld _) ?ha ?_; (case ha => simp only [kP, kQ, kA, kB]; try rfl)) | (refine' xAk rfl rfl rfl (xAi Tryz.func41 (by kernel_rfl) (by kernel_rfl) _) (fun w => b1 w) ?ha ?_) | (refine' xDy (by decide) rfl rfl rfl (fun w => ?hq) ?ha ?_; (case hq => go_simp; try rfl); (case ha => simp only [kP, kQ, kA, kB]; try rfl))); try (case ha => simp only [kP, kQ, kA, kB]; try rfl))
    refine xAo (hK _ _ ?_)
    clear hK K
    refine xAr (fun Q hQ => ?_)
    try simp only [List.nil_append, List.cons_append]
    repeat ((fail); (case hk => intro p hp; first | exact absurd hp List.not_mem_nil | (obtain rfl := List.mem_singleton.1 hp; repeat (first | exact List.Mem.head _ | with_reducible assumption | apply mC))); (case ha => simp only [kP, kQ, kA, kB]; try rfl))
    refine xAs (fun w hR => hQ _ _ ?_)
    clear hQ Q
    go_wp2_with (fail)
    go_ret
    exact ⟨rfl, hR.drop1⟩
end
end
section
noncomputable def raP (q x : Nat) : Nat → Nat
 | 0 => sOf q 1
 | k + 1 => mulN (raP q x k) x q
noncomputable def raS (q : Nat) (f : Nat → Nat) (x : Nat) : Nat → Nat
 | 0 => 0
 | k + 1 => (raS q f x k + mulN (f k) (raP q x k) q) % q
theorem raP_lt {q : Nat} (h : 1 < q) (x : Nat) : ∀ k, raP q x k < q
 | 0 => sOf_lt h 1
 | k + 1 => xJk h _ _
theorem raS_lt {q : Nat} (h : 1 < q) (f : Nat → Nat) (x : Nat) : ∀ k, raS q f x k < q
 | 0 => Nat.lt_of_succ_lt h
 | k + 1 => Nat.mod_lt _ (by omega)
noncomputable def ruP (q : Nat) (f : Nat → Nat) (i : Nat) : Nat → Nat
 | 0 => sOf q 1
 | k + 1 => if k = i then ruP q f i k else mulN (ruP q f i k) (invM (subN (f i) (f k) q) q) q
theorem ruP_lt {q : Nat} (h : 1 < q) (f : Nat → Nat) (i : Nat) : ∀ k, ruP q f i k < q
  | 0 => sOf_lt h 1
  | k + 1 => by
    unfold ruP
    split
    · exact ruP_lt h f i k
    · exact xJk h _ _
def undOK (q n : Nat) (f : Nat → Nat) (i : Nat) : Prop := ∀ k, k < n → k ≠ i → Nat.gcd (subN (f i) (f k) q) q = 1
noncomputable def rwP (q : Nat) (f : Nat → Nat) (i x v : Nat) : Nat → Nat
 | 0 => v
 | k + 1 => if k = i then rwP q f i x v k else mulN (rwP q f i x v k) (subN x (f k) q) q
theorem rwP_lt {q : Nat} (h : 1 < q) (f : Nat → Nat) (i x : Nat) {v : Nat} (hv : v < q) : ∀ k, rwP q f i x v k < q
  | 0 => hv
  | k + 1 => by
    unfold rwP
    split
    · exact rwP_lt h f i x hv k
    · exact xJk h _ _
noncomputable def rwF (q n : Nat) (f : Nat → Nat) (x i : Nat) : Nat := rwP q f i x (ruP q f i n) n
section
variable {q : Nat} [NeZero q]
theorem fi_raP (h1 : 1 < q) (x : Nat) : ∀ i, fi q (raP q x i) = fi q x ^ i
 | 0 => by rw [raP, fi_one h1]; grind
 | i + 1 => by rw [raP, xJo, fi_raP h1 x i]; grind
theorem fi_raS (h1 : 1 < q) (f : Nat → Nat) (x : Nat) : ∀ k, fi q (raS q f x k) = H (fun j => fi q (f j)) k (fi q x)
 | 0 => by rw [raS, fi_zero]; rfl
 | k + 1 => by rw [raS, fi_addN, xJo, fi_raP h1, fi_raS h1 f x k, H_last]
theorem ra_at (h1 : 1 < q) {n : Nat} {f : Nat → Nat} (zs : Nat → Nm q) (hz : ∀ j, j < n → (zs j).1 = f j) (x : Nat) : raS q f x n = hvL x (dnN n zs 0) :=
 fi_inj (raS_lt h1 f x n) (hvL_lt h1 x _) (by rw [fi_raS h1, fi_at zs hz])
variable {n : Nat} {f : Nat → Nat}
theorem fi_ruP (h1 : 1 < q) (hf : ∀ j, j < n → f j < q) {i : Nat} (hu : undOK q n f i) : ∀ k, k ≤ n → fi q (ruP q f i k) * PS (fun t => fi q (f i) - fi q (f t)) i k = 1
  | 0, _ => by rw [ruP, PS, fi_one h1]; grind
  | k + 1, hk => by
    have ih := fi_ruP h1 hf hu k (by omega)
    rw [ruP, PS]
    by_cases hki : k = i
    · rw [if_pos hki, if_pos hki]; exact ih
    · rw [if_neg hki, if_neg hki, xJo]
      have hd : subN (f i) (f k) q < q := by rw [xEi]; exact Nat.mod_lt _ (by omega)
      have e := fi_inv h1 hd (hu k (by omega) hki)
      rw [fi_subN (hf k (by omega))] at e
      generalize fi q (invM (subN (f i) (f k) q) q) = v at *
      generalize fi q (f i) - fi q (f k) = d at *
      generalize PS (fun t => fi q (f i) - fi q (f t)) i k = P at *
      grind
theorem und_gcd (h1 : 1 < q) (hf : ∀ j, j < n → f j < q) {i : Nat} (hi : i < n) : undOK q n f i ↔ Nat.gcd (uF q n f i) q = 1 := by
 constructor
 ·intro hu
  have := fi_ruP h1 hf hu n (Nat.le_refl n)
  exact u_unit h1 hf hi (v := fi q (ruP q f i n)) (by grind)
 ·intro hg k hk hki
  have e := fi_vu h1 hf hi hg
  obtain ⟨r, hr⟩ := PS_div (G := fun t => fi q (f i) - fi q (f t)) (i := i) hki n hk
  rw [hr] at e
  refine fi_unit h1 (v := fi q (vF q n f i) * r) ?_
  rw [fi_subN (hf k hk)]
  grind
theorem und_all (h1 : 1 < q) (hf : ∀ j, j < n → f j < q) : (∀ i, i < n → undOK q n f i) ↔ wtE q n f n = 0 :=
 Iff.trans ⟨fun h t ht => (und_gcd h1 hf ht).1 (h t ht), fun h t ht => (und_gcd h1 hf ht).2 (h t ht)⟩ (wtE_all h1 n).symm
theorem ru_v (h1 : 1 < q) (hf : ∀ j, j < n → f j < q) {i : Nat} (hi : i < n) (hu : undOK q n f i) : ruP q f i n = vF q n f i := by
 refine fi_inj (ruP_lt h1 f i n) (vF_lt h1 i) ?_
 have a := fi_ruP h1 hf hu n (Nat.le_refl n)
 have b := fi_vu h1 hf hi ((und_gcd h1 hf hi).1 hu)
 generalize PS (fun t => fi q (f i) - fi q (f t)) i n = P at *
 grind
theorem fi_rwP (h1 : 1 < q) (hf : ∀ j, j < n → f j < q) (i x v : Nat) : ∀ k, k ≤ n → fi q (rwP q f i x v k) = fi q v * PS (fun t => fi q x - fi q (f t)) i k
  | 0, _ => by rw [rwP, PS]; grind
  | k + 1, hk => by
    have ih := fi_rwP h1 hf i x v k (by omega)
    rw [rwP, PS]
    by_cases hki : k = i
    · rw [if_pos hki, if_pos hki]; exact ih
    · rw [if_neg hki, if_neg hki, xJo, ih, fi_subN (hf k (by omega))]
      grind
theorem rw_wt (h1 : 1 < q) (hf : ∀ j, j < n → f j < q) {i : Nat} (hi : i < n) (hu : undOK q n f i) (x : Nat) : rwF q n f x i = wtF q n f x i := by
 refine fi_inj (rwP_lt h1 f i x (ruP_lt h1 f i n) n) (xIq h1 (vF_lt h1 i) _) ?_
 show fi q (rwP q f i x (ruP q f i n) n) = fi q (wtF q n f x i)
 rw [fi_rwP h1 hf i x _ n (Nat.le_refl n), fi_wt hf hi, ru_v h1 hf hi hu]
end
end
section
attribute [local irreducible] Calls Instr.build Instr.buildSlice
section
variable {p q g h : Nat} {B0 : Nat} {w0 w : World} {L : List (Nat × Obj)} {a : Option Addr} {n cp : Nat} {f : Nat → Nat}
theorem xJv (hq : q < B) (hA : NAt B0 w0 L a n cp f) (hn : n ≤ 1000000) (s : Bool) (hs : s = true ↔ ptsOK q n f) (hR : Rep B0 w0 L w) :
  Calls Tryz.prog 45 #[grp p q g h, .slice a n cp] w fun en w' => en = .returned (.bool s) ∧ Rep B0 w0 L w' := by
 classical
 by_cases hn0 : n = 0
 ·subst hn0
  obtain rfl : s = false := by
   cases s
   ·rfl
   ·have := (hs.1 rfl).1; omega
  clear hA hs
  have e0 : ((0 : Int) == 0) = true := rfl
  go_enter Tryz.func45, Tryz.ntmps45
  go_wp2_with (first | go_skip | (refine' aAq hR ?_; clear hR; intro blk w hR))
  go_ret
  exact ⟨rfl, hR.drop1⟩
 have n1 : ¬ (n : Int) = 0 := by omega
 have n2 : ((n : Int) == 0) = false := by simp; omega
 by_cases hall : 1 < q ∧ ∀ j, j < n → f j < q
 case neg =>
  obtain rfl : s = false := by
   cases s
   ·rfl
   ·exact absurd (hs.1 rfl).2.2 hall
  have ca := fun (b3 : Nat) (w : World) (hw : Rep B0 w0 ((b3, .cells (gl p q g h).toArray 26) :: L) w) => xId (p := p) (g := g) (h := h) hq (hA.mono fun w hw => hw.drop1) hn false ⟨fun hh => (nomatch hh), fun hh => absurd hh hall⟩ hw
  clear hA hs hall
  go_enter Tryz.func45, Tryz.ntmps45
  go_wp2_with (first | (refine' aAq hR ?_; clear hR; intro blk w hR) | (refine' aVq hR ?_) | (go_at_call 40; refine (ca _ _ hR).mono ?_; clear hR; rintro e w ⟨rfl, hR⟩))
  go_ret
  exact ⟨rfl, hR.drop1⟩
 have ca := fun (b3 : Nat) (w : World) (hw : Rep B0 w0 ((b3, .cells (gl p q g h).toArray 26) :: L) w) => xId (p := p) (g := g) (h := h) hq (hA.mono fun w hw => hw.drop1) hn true ⟨fun _ => hall, fun _ => rfl⟩ hw
 have hs' : s = true ↔ ∀ i, i < n → ∀ j, j < i → f j ≠ f i := hs.trans ⟨fun hh => hh.2.1, fun hh => ⟨by omega, hh, hall⟩⟩
 replace hs' := Held.mk hs'
 replace hA := Held.mk hA
 clear hs hall
 go_enter Tryz.func45, Tryz.ntmps45
 go_wp2_with (first | (refine' aAq hR ?_; clear hR; intro blk w hR) | (refine' aVq hR ?_) | (go_at_call 40; refine (ca _ _ hR).mono ?_; clear hR; rintro e w ⟨rfl, hR⟩))
 clear ca
 try simp only [Act.put, kA, kB, List.setIfInBounds_toArray]
 refine' xBo hR (false :: false :: false :: false :: false :: false :: true :: false :: false :: false :: false :: false :: false :: false :: false :: false :: true :: true :: true :: true :: true :: true :: true :: true :: true :: true :: true :: true :: true :: true :: true :: true :: true :: true :: true :: true :: []) (fun (i : Nat) l => l.set 5 (.int .i64 (i : Int))) (fun i => n - i) (fun i => i ≤ n ∧ ∀ k, k < i → ∀ j, j < k → f j ≠ f k) 0 ?h0 ?hO ?hs
 case h0 => exact xAf rfl rfl rfl
 case hO => exact ⟨Nat.zero_le _, fun j hj => absurd hj (Nat.not_lt_zero j)⟩
 case hs =>
  clear hR
  intro i tm w hi ht hR K hK
  obtain ⟨hi, hno⟩ := hi
  replace hno := Held.mk hno
  have g0 : 0 ≤ (i : Int) := by omega
  by_cases hik : i = n
  ·subst hik
   have t1 : ¬ (i : Int) < (i : Int) := by omega
   obtain rfl : s = true := hs'.out.2 hno.out
   clear hK hi hA hs' hno
   repeat (first | (obtain ⟨x, tm', e, ht'⟩ := xAc ht; clear ht; subst e; have ht := ht'; clear ht') | (obtain ⟨tm', e, ht'⟩ := xAa ht; clear ht; subst e; have ht := ht'; clear ht'))
   obtain rfl := xAe ht
   clear ht
   go_wp2_with (fail)
   go_ret
   exact ⟨rfl, hR.drop1⟩
  ·have hin : i < n := by omega
   have g1 : (i : Int) < (n : Int) := by omega
   obtain ⟨bb, off, rfl, hx⟩ := hA.out.at' (by omega)
   have lf := hA.out.lt i hin
   have ld := fun (b3 : Nat) (w : World) (hw : Rep B0 w0 ((b3, .cells (gl p q g h).toArray 26) :: L) w) => xBc (hx w hw.drop1 i hin)
   obtain ⟨xv, hxe⟩ : ∃ z, f i = z := ⟨_, rfl⟩
   rw [hxe] at ld lf
   have ei : IntKind.i64.wrap ((i : Int) + 1) = ((i + 1 : Nat) : Int) := by rw [IntKind.wrap_i64]; omega
   have hi1 : i + 1 ≤ n := by omega
   have hmu : n - (i + 1) < n - i := by omega
   replace hi1 := Held.mk hi1
   replace hmu := Held.mk hmu
   replace hxe := Held.mk hxe
   replace lf := Held.mk lf
   replace hx := Held.mk hx
   clear hik
   repeat (first | (obtain ⟨x, tm', e, ht'⟩ := xAc ht; clear ht; subst e; have ht := ht'; clear ht') | (obtain ⟨tm', e, ht'⟩ := xAa ht; clear ht; subst e; have ht := ht'; clear ht'))
   obtain rfl := xAe ht
   clear ht
   go_wp2_with (fail)
   try simp only [Act.put, kA, kB, List.setIfInBounds_toArray]
   refine' xBo hR (false :: false :: false :: false :: false :: false :: false :: false :: false :: false :: false :: false :: false :: false :: false :: false :: false :: false :: false :: false :: false :: false :: true :: true :: true :: true :: true :: true :: true :: true :: true :: true :: true :: true :: true :: true :: []) (fun (k : Nat) l => l.set 6 (.int .i64 (k : Int))) (fun k => i - k) (fun k => k ≤ i ∧ ∀ j, j < k → f j ≠ xv) 0 ?i0 ?iO ?is
   case i0 => exact xAf rfl rfl rfl
   case iO => exact ⟨Nat.zero_le _, fun j hj => absurd hj (Nat.not_lt_zero j)⟩
   case is =>
    clear hR
    intro k tm w hk ht hR K2 hK2
    obtain ⟨hk, hne⟩ := hk
    replace hne := Held.mk hne
    have k0 : 0 ≤ (k : Int) := by omega
    by_cases hki : k = i
    ·subst hki
     have t1 : ¬ (k : Int) < (k : Int) := by omega
     have hnext : ∀ m, m < k + 1 → ∀ j, j < m → f j ≠ f m := fun m hm j hj => by
      by_cases hmk : m = k
      ·rw [hmk, hxe.out]; exact hne.out j (by omega)
      ·exact hno.out m (by omega) j hj
     replace hnext := Held.mk hnext
     clear hK2 hk hi hA hs' hno hne hx hxe lf ld
     repeat (first | (obtain ⟨x, tm', e, ht'⟩ := xAc ht; clear ht; subst e; have ht := ht'; clear ht') | (obtain ⟨tm', e, ht'⟩ := xAa ht; clear ht; subst e; have ht := ht'; clear ht'))
     obtain rfl := xAe ht
     clear ht
     go_wp2_with (fail)
     exact hK.out (k + 1) _ _ ⟨hi1.out, hnext.out⟩ hmu.out (xAf rfl rfl rfl) hR
    ·have hkl : k < i := by omega
     have k1 : (k : Int) < (i : Int) := by omega
     have k2 : (k : Int) < (n : Int) := by omega
     have lk := hA.out.lt k (by omega)
     have ldk := fun (b3 : Nat) (w : World) (hw : Rep B0 w0 ((b3, .cells (gl p q g h).toArray 26) :: L) w) => xBc (hx.out w hw.drop1 k (by omega))
     obtain ⟨yv, hye⟩ : ∃ z, f k = z := ⟨_, rfl⟩
     rw [hye] at ldk lk
     by_cases hxy : xv = yv
     ·have es : eqN xv yv = true := xFw hxy
      obtain rfl : s = false := by
       cases s
       ·rfl
       ·exact absurd (by rw [hye, hxe.out, hxy]) (hs'.out.1 rfl i hin k hkl)
      clear hK hK2 hi hk hA hs' hno hne hx hxe lf lk hye hxy hki
      repeat (first | (obtain ⟨x, tm', e, ht'⟩ := xAc ht; clear ht; subst e; have ht := ht'; clear ht') | (obtain ⟨tm', e, ht'⟩ := xAa ht; clear ht; subst e; have ht := ht'; clear ht'))
      obtain rfl := xAe ht
      clear ht
      go_wp2_with (fail)
      refine xAd hR [0, 0, 0, 0, 0, 0, 0, 0, 0] [] xBd (by kernel_rfl) rfl rfl (fun K hK => ?_)
      clear hR
      repeat ((first | (refine' xAj (by decide) rfl (.inl rfl) rfl ?ha ?_) | ((first | refine' xAg (by decide) rfl rfl rfl rfl (fun w => ?hq) ?ha ?_ | refine' xAm (by decide) rfl rfl rfl rfl (fun w => ?hq) ?ha ?_); (case hq => go_simp; try rfl)) | (refine' xAn rfl rfl rfl (ld _) ?ha ?_; (case ha => simp only [kP, kQ, kA, kB]; try rfl)) | (refine' xAn rfl rfl rfl (ldk _) ?ha ?_; (case ha => simp only [kP, kQ, kA, kB]; try rfl))); try (case ha => simp only [kP, kQ, kA, kB]; try rfl))
      refine xAo (hK _ _ ?_)
      clear hK K
      refine xAr (fun Q hQ => ?_)
      try simp only [List.nil_append, List.cons_append]
      repeat ((fail); (case hk => intro p hp; first | exact absurd hp List.not_mem_nil | (obtain rfl := List.mem_singleton.1 hp; repeat (first | exact List.Mem.head _ | with_reducible assumption | apply mC))); (case ha => simp only [kP, kQ, kA, kB]; try rfl))
      refine xAs (fun w hR => hQ _ _ ?_)
      clear hQ Q
      go_wp2_with (fail)
      go_ret
      exact ⟨rfl, hR.drop1⟩
     ·have es : eqN xv yv = false := xDq lf.out lk hxy
      have hnext : ∀ j, j < k + 1 → f j ≠ xv := fun j hj => by
       by_cases hjk : j = k
       ·rw [hjk, hye]; exact fun hh => hxy hh.symm
       ·exact hne.out j (by omega)
      have ek : IntKind.i64.wrap ((k : Int) + 1) = ((k + 1 : Nat) : Int) := by rw [IntKind.wrap_i64]; omega
      have hk1 : k + 1 ≤ i := by omega
      have hmk : i - (k + 1) < i - k := by omega
      replace hk1 := Held.mk hk1
      replace hmk := Held.mk hmk
      replace hnext := Held.mk hnext
      clear hK hi hk hA hs' hno hne hx hxe lf lk hye hxy hki ei
      repeat (first | (obtain ⟨x, tm', e, ht'⟩ := xAc ht; clear ht; subst e; have ht := ht'; clear ht') | (obtain ⟨tm', e, ht'⟩ := xAa ht; clear ht; subst e; have ht := ht'; clear ht'))
      obtain rfl := xAe ht
      clear ht
      go_wp2_with (fail)
      refine xAd hR [0, 0, 0, 0, 0, 0, 0, 0, 0] [] xBd (by kernel_rfl) rfl rfl (fun K hK => ?_)
      clear hR
      repeat ((first | (refine' xAj (by decide) rfl (.inl rfl) rfl ?ha ?_) | ((first | refine' xAg (by decide) rfl rfl rfl rfl (fun w => ?hq) ?ha ?_ | refine' xAm (by decide) rfl rfl rfl rfl (fun w => ?hq) ?ha ?_); (case hq => go_simp; try rfl)) | (refine' xAn rfl rfl rfl (ld _) ?ha ?_; (case ha => simp only [kP, kQ, kA, kB]; try rfl)) | (refine' xAn rfl rfl rfl (ldk _) ?ha ?_; (case ha => simp only [kP, kQ, kA, kB]; try rfl))); try (case ha => simp only [kP, kQ, kA, kB]; try rfl))
      refine xAo (hK _ _ ?_)
      clear hK K
      refine xAr (fun Q hQ => ?_)
      try simp only [List.nil_append, List.cons_append]
      repeat ((fail); (case hk => intro p hp; first | exact absurd hp List.not_mem_nil | (obtain rfl := List.mem_singleton.1 hp; repeat (first | exact List.Mem.head _ | with_reducible assumption | apply mC))); (case ha => simp only [kP, kQ, kA, kB]; try rfl))
      refine xAs (fun w hR => hQ _ _ ?_)
      clear hQ Q
      go_wp2_with (fail)
      exact hK2.out (k + 1) _ _ ⟨hk1.out, hnext.out⟩ hmk.out (xAf rfl rfl rfl) hR
end
end
end Go.Proofs.YtaaahfjpnggkbaaGreatDoor
