import Derived.Test.YtaaahfjpnggkbaaGreatDoorHXG
import Derived.Test.YtaaahfjpnggkbaaGreatDoorHBC
set_option linter.unusedSimpArgs false
set_option linter.unusedVariables false
set_option maxRecDepth 100000
set_option maxHeartbeats 20000000
namespace Go.Proofs.YtaaahfjpnggkbaaGreatDoor
open Go.RowKit
section
attribute [local irreducible] Calls Instr.build Instr.buildSlice
section
variable {B0 : Nat} {w0 w : World} {L : List (Nat × Obj)} {bb hb : Nat} {E : Nat → Ent} {hcur bk : List Value} {m hc : Nat}
theorem look_numJ (hm : m ≤ 1000) (hbk : bk[2]? = some (.slice (some ⟨hb, 0, none⟩) m hc)) (hrw : ∀ j, j < m → (hcur.drop (j * 3)).take 3 = hrow (E j)) (hl : m * 3 ≤ hcur.length) (hk : ∀ j, j < m → (E j).k ≤ 1000000 ∧ (E j).n ≤ 1000000 ∧ (E j).ln = (E j).n + 40)
  (hA : ∀ j, j < m → IAt B0 w0 L (E j).a (E j).n (E j).cap (fun _ => -((E j).k : Int)) ∧ IAt B0 w0 L (E j).la (E j).ln (E j).lc (fun _ => -((E j).k : Int))) (h1 : (bb, Obj.cells bk.toArray 57) ∈ L) (h2 : (hb, Obj.cells hcur.toArray 128) ∈ L) (hR : Rep B0 w0 L w) :
  Calls Tryz.prog 84 #[.pointer (some ⟨bb, 0, none⟩)] w fun e w' => e = .returned (.bool true) ∧ Rep B0 w0 L w' := by
 replace hrw := Held.mk hrw
 replace hk := Held.mk hk
 replace hA := Held.mk hA
 go_enter Tryz.func84, Tryz.ntmps84
 go_wp2_with (fail)
 try simp only [Act.put, kA, kB, List.setIfInBounds_toArray]
 refine' xBo hR (false :: false :: false :: false :: true :: true :: true :: true :: true :: true :: true :: true :: true :: true :: true :: true :: true :: true :: true :: true :: true :: true :: true :: true :: true :: true :: true :: true :: true :: true :: true :: true :: true :: true :: true :: true :: true :: true :: true :: true :: true :: true :: true :: true :: true :: true :: true :: true :: true :: true :: true :: true :: true :: true :: true :: true :: true :: true :: true :: true :: true :: true :: true :: true :: []) (fun (i : Nat) l => l.set 3 (.int .i64 (i : Int))) (fun i => m - i) (fun i => i ≤ m) 0 ?h0 ?hO ?hs
 case h0 => exact xAf rfl rfl rfl
 case hO => exact Nat.zero_le _
 case hs =>
  clear hR
  intro i tm w hi ht hR K hK
  have g0 : 0 ≤ (i : Int) := by omega
  by_cases him : i = m
  ·subst him
   have t1 : ¬ (i : Int) < (i : Int) := by omega
   clear hK hi hA
   repeat (first | (obtain ⟨x, tm', e, ht'⟩ := xAc ht; clear ht; subst e; have ht := ht'; clear ht') | (obtain ⟨tm', e, ht'⟩ := xAa ht; clear ht; subst e; have ht := ht'; clear ht'))
   obtain rfl := xAe ht
   clear ht
   go_wp2_with (refine' aMq hR ?_)
   go_ret
   exact ⟨rfl, hR⟩
  have hin : i < m := by omega
  have g1 : (i : Int) < (m : Int) := by omega
  have ei : IntKind.i64.wrap ((i : Int) + 1) = ((i + 1 : Nat) : Int) := by rw [IntKind.wrap_i64]; omega
  have hi1 : i + 1 ≤ m := by omega
  have hmu : m - (i + 1) < m - i := by omega
  replace hi1 := Held.mk hi1
  replace hmu := Held.mk hmu
  have row := hrw.out i hin
  obtain ⟨hk1, hn1, hln⟩ := hk.out i hin
  obtain ⟨hA1, hA2⟩ := hA.out i hin
  obtain ⟨en, he⟩ : ∃ e, E i = e := ⟨_, rfl⟩
  rw [he] at row hk1 hn1 hln hA1 hA2
  obtain ⟨sa, sn, sc, la, ln, lc, kk⟩ := en
  simp only at hk1 hn1 hln hA1 hA2
  have hgr : i * 3 + 3 ≤ hcur.length := by omega
  have ci := fun w => is_int kk (by omega) w
  have el : IntKind.i64.wrap ((sn : Int) + 40) = (ln : Int) := by rw [IntKind.wrap_i64]; omega
  have el2 : ((ln : Int) == (ln : Int)) = true := by simp
  have el3 : ((ln : Int) != (ln : Int)) = false := by simp
  obtain ⟨lb, lo, rfl, hld⟩ := hA2.at' (by omega)
  have hlb : ln ≤ 1000040 := by omega
  replace hln := Held.mk hln
  replace hA1 := Held.mk hA1
  replace hld := Held.mk hld
  clear hA hrw hk hA2 he
  repeat (first | (obtain ⟨x, tm', e, ht'⟩ := xAc ht; clear ht; subst e; have ht := ht'; clear ht') | (obtain ⟨tm', e, ht'⟩ := xAa ht; clear ht; subst e; have ht := ht'; clear ht'))
  obtain rfl := xAe ht
  clear ht
  go_wp2_with (first | (refine' aBq hR ?_; clear hR; intro blk w hR) | (refine' aPq hR ?_) | (refine' aMq hR ?_) | (refine' aFq hR ?_; clear hR; intro w hR))
  try simp only [Act.put, kA, kB, List.setIfInBounds_toArray]
  refine' xBo hR (false :: false :: false :: false :: false :: false :: false :: false :: false :: false :: false :: false :: false :: false :: false :: false :: false :: false :: false :: false :: false :: false :: false :: false :: false :: false :: false :: false :: false :: false :: true :: true :: true :: true :: true :: true :: true :: true :: true :: true :: true :: true :: true :: true :: true :: true :: true :: true :: true :: true :: true :: true :: true :: true :: true :: true :: true :: true :: true :: true :: true :: true :: true :: true :: []) (fun (k : Nat) l => l.set 5 (.int .i64 (k : Int))) (fun k => ln - k) (fun k => k ≤ ln) 0 ?i0 ?iO ?is
  case i0 => exact xAf rfl rfl rfl
  case iO => exact Nat.zero_le _
  case is =>
   clear hR
   intro k tm w hkn ht hR K2 hK2
   have k0 : 0 ≤ (k : Int) := by omega
   by_cases hke : k = ln
   ·have t1 : ¬ (k : Int) < (ln : Int) := by omega
    clear hK2 hA1 hld ci
    repeat (first | (obtain ⟨x, tm', e, ht'⟩ := xAc ht; clear ht; subst e; have ht := ht'; clear ht') | (obtain ⟨tm', e, ht'⟩ := xAa ht; clear ht; subst e; have ht := ht'; clear ht'))
    obtain rfl := xAe ht
    clear ht
    go_wp2_with (refine' aMq hR ?_)
    exact hK.out (i + 1) _ _ hi1.out hmu.out (xAf rfl rfl rfl) hR.drop1
   have hkl : k < ln := by omega
   have k1 : (k : Int) < (ln : Int) := by omega
   have ek : IntKind.i64.wrap ((k : Int) + 1) = ((k + 1 : Nat) : Int) := by rw [IntKind.wrap_i64]; omega
   have hk2 : k + 1 ≤ ln := by omega
   have hmk : ln - (k + 1) < ln - k := by omega
   have ldl := fun (o : Obj) (b : Nat) (w : World) (hw : Rep B0 w0 ((b, o) :: L) w) => xDu (hld.out w hw.drop1 k hkl)
   replace hk2 := Held.mk hk2
   replace hmk := Held.mk hmk
   by_cases hs : k < sn
   ·have s1 : (k : Int) < (sn : Int) := by omega
    have s2 : decide ((k : Int) < (sn : Int)) = true := decide_eq_true s1
    obtain ⟨sb, so, rfl, hsd⟩ := hA1.out.at' (by omega)
    have lds := fun (o : Obj) (b : Nat) (w : World) (hw : Rep B0 w0 ((b, o) :: L) w) => xDu (hsd w hw.drop1 k hs)
    clear hK hA1 hld hke hsd hln
    repeat (first | (obtain ⟨x, tm', e, ht'⟩ := xAc ht; clear ht; subst e; have ht := ht'; clear ht') | (obtain ⟨tm', e, ht'⟩ := xAa ht; clear ht; subst e; have ht := ht'; clear ht'))
    obtain rfl := xAe ht
    clear ht
    go_wp2_with (refine' aMq hR ?_)
    refine xAd hR [0, 0, 0, 0, 0, 0, 0, 0, 0, 0, 0, 0, 0, 0, 0, 0, 0, 0, 0, 0, 0, 0, 0, 0, 0, 0, 0] [] xBd (by kernel_rfl) rfl rfl (fun K hK => ?_)
    clear hR
    repeat ((first | (refine' xAj (by decide) rfl (.inl rfl) rfl ?ha ?_) | (refine' aXq ?ha ?_) | ((first | refine' xAg (by decide) rfl rfl rfl rfl (fun w => ?hq) ?ha ?_ | refine' xAm (by decide) rfl rfl rfl rfl (fun w => ?hq) ?ha ?_ | refine' xAl (by decide) rfl rfl rfl (fun w => ?hq) ?ha ?_); (case hq => go_simp; try rfl)) | (refine' xBh (by decide) rfl rfl rfl rfl ?ha ?_) | (refine' xAn rfl rfl rfl (ldl _ _) ?ha ?_; (case ha => simp only [kP, kQ, kA, kB]; try rfl)) | (refine' xAn rfl rfl rfl (lds _ _) ?ha ?_; (case ha => simp only [kP, kQ, kA, kB]; try rfl)) | (refine' xAk rfl rfl rfl (xAi Tryz.func152 (by kernel_rfl) (by kernel_rfl) _) (fun w => ci w) ?ha ?_) | (refine' xDy (by decide) rfl rfl rfl (fun w => ?hq) ?ha ?_; (case hq => go_simp; try rfl); (case ha => simp only [kP, kQ, kA, kB]; try rfl)) | (refine' hd_len (by decide) rfl rfl rfl (fun w => ?hq) ?ha ?_; (case hq => go_simp; try rfl))); try (case ha => simp only [kP, kQ, kA, kB]; try rfl))
    refine xAo (hK _ _ ?_)
    clear hK K
    refine xAr (fun Q hQ => ?_)
    try simp only [List.nil_append, List.cons_append]
    repeat ((fail); (case hk => intro p hp; first | exact absurd hp List.not_mem_nil | (obtain rfl := List.mem_singleton.1 hp; repeat (first | exact List.Mem.head _ | with_reducible assumption | apply mC))); (case ha => simp only [kP, kQ, kA, kB]; try rfl))
    refine xAs (fun w hR => hQ _ _ ?_)
    clear hQ Q
    go_wp2_with (fail)
    exact hK2.out (k + 1) _ _ hk2.out hmk.out (xAf rfl rfl rfl) hR
   ·have s1 : ¬ (k : Int) < (sn : Int) := by omega
    have s2 : decide ((k : Int) < (sn : Int)) = false := decide_eq_false s1
    clear hK hA1 hld hke
    repeat (first | (obtain ⟨x, tm', e, ht'⟩ := xAc ht; clear ht; subst e; have ht := ht'; clear ht') | (obtain ⟨tm', e, ht'⟩ := xAa ht; clear ht; subst e; have ht := ht'; clear ht'))
    obtain rfl := xAe ht
    clear ht
    go_wp2_with (refine' aMq hR ?_)
    refine xAd hR [0, 0, 0, 0, 0, 0, 0, 0, 0, 0, 0, 0, 0, 0, 0, 0, 0, 0, 0, 0, 0, 0, 0, 0, 0, 0, 0] [] xBd (by kernel_rfl) rfl rfl (fun K hK => ?_)
    clear hR
    repeat ((first | (refine' xAj (by decide) rfl (.inl rfl) rfl ?ha ?_) | (refine' aXq ?ha ?_) | ((first | refine' xAg (by decide) rfl rfl rfl rfl (fun w => ?hq) ?ha ?_ | refine' xAm (by decide) rfl rfl rfl rfl (fun w => ?hq) ?ha ?_ | refine' xAl (by decide) rfl rfl rfl (fun w => ?hq) ?ha ?_); (case hq => go_simp; try rfl)) | (refine' xBh (by decide) rfl rfl rfl rfl ?ha ?_) | (refine' xCe (by decide) rfl ?ha ?_) | (refine' xAn rfl rfl rfl (ldl _ _) ?ha ?_; (case ha => simp only [kP, kQ, kA, kB]; try rfl)) | (refine' xAk rfl rfl rfl (xAi Tryz.func152 (by kernel_rfl) (by kernel_rfl) _) (fun w => ci w) ?ha ?_) | (refine' xDy (by decide) rfl rfl rfl (fun w => ?hq) ?ha ?_; (case hq => go_simp; try rfl); (case ha => simp only [kP, kQ, kA, kB]; try rfl)) | (refine' hd_len (by decide) rfl rfl rfl (fun w => ?hq) ?ha ?_; (case hq => go_simp; try rfl))); try (case ha => simp only [kP, kQ, kA, kB]; try rfl))
    refine xAo (hK _ _ ?_)
    clear hK K
    refine xAr (fun Q hQ => ?_)
    try simp only [List.nil_append, List.cons_append]
    repeat ((fail); (case hk => intro p hp; first | exact absurd hp List.not_mem_nil | (obtain rfl := List.mem_singleton.1 hp; repeat (first | exact List.Mem.head _ | with_reducible assumption | apply mC))); (case ha => simp only [kP, kQ, kA, kB]; try rfl))
    refine xAs (fun w hR => hQ _ _ ?_)
    clear hQ Q
    go_wp2_with (fail)
    exact hK2.out (k + 1) _ _ hk2.out hmk.out (xAf rfl rfl rfl) hR
end
end
section
section
variable {B0 : Nat} {w0 : World} {L : List (Nat × Obj)}
theorem grown_natJ {e e' : Ent} {g : Option Nat} {bl : List (Nat × Obj)} (h : GrownJ e e' g bl) (hL : ∀ p, p ∈ bl → p ∈ L) : IAt B0 w0 L e'.a e'.n e'.cap (fun _ => -(e'.k : Int)) ∧ IAt B0 w0 L e'.la e'.ln e'.lc (fun _ => -(e'.k : Int)) := by
 obtain ⟨h1, h2, h3, h4, h5, h6⟩ := h
 rw [h1, h2, h3, h4, h5]
 rcases h6 with ⟨b, cur, hg, hea, hla, hlc, hbl, ho⟩ | ⟨Y, cur, hY, hla, hlc, hbl, hE⟩
 ·have hm : (b, Obj.cells cur.toArray 3) ∈ L := hL _ (by rw [hbl]; exact .head _)
  rw [hea, hla, hlc]
  exact ⟨ho.at hm (by omega), ho.at hm (Nat.le_refl _)⟩
 ·rw [hla, hlc]
  refine ⟨?_, grI_iat hY (fun p hp => hL p (by rw [hbl]; exact List.mem_append_left _ hp))⟩
  rcases hE with ⟨hg, ha, hn, hc⟩ | ⟨b, hg, ha, ho⟩
  ·rw [ha, hn, hc]
   exact ⟨Nat.le_refl _, Nat.zero_le _, fun h => absurd rfl h⟩
  ·rw [ha]
   exact ho.at (hL _ (by rw [hbl, hg]; exact List.mem_append_right _ (.head _))) (Nat.le_refl _)
end
end
end Go.Proofs.YtaaahfjpnggkbaaGreatDoor
