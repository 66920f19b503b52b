/- The walk of balefirelaw13.SigsOf. -/
import Derived.Test.YtgfoeongjhkdmaaGreatRRef13
import Derived.Test.YtgfoeongjhkdmaaGreatRGB
set_option linter.unusedVariables false
set_option linter.unusedSimpArgs false
namespace Go.Proofs.YtgfoeongjhkdmaaGreat
open Go.RowKit
attribute [local irreducible] Calls Instr.build Instr.buildSlice
theorem both_sign {p q g h s d : Nat} {H : Nat → Nat} (hp : p < B) (hq : q < B) (hg : g < B) (hs : s < B) (hd : d < B) (hH : ∀ i, H i < 256) : ∃ C Z : Nat, ∃ e : Int, C < B ∧ Z < B ∧
    (∀ w, Calls Tryz.prog 4 #[grp p q g h, num s, .agg (u8s 32 H).toArray, num d] w fun e' w' => e' = .returned (.tuple #[sigV C Z, .int .i64 e]) ∧ Below w.heap.size w w') ∧
    (∀ w, Calls Tryz.prog 5 #[grp p q g h, num s, .agg (u8s 32 H).toArray, num d] w fun e' w' => e' = .returned (.tuple #[sigV C Z, .int .i64 e]) ∧ Below w.heap.size w w') := by
  classical
  by_cases hk : signOk p q g s d
  · have q1 : 1 < q := hk.2.2.2.1
    have l1 : sigC p q g s d H < q := by unfold sigC; exact chalN_lt (by omega) _ _ _
    have l2 : sigS p q g s d H < q := by unfold sigS; exact Nat.mod_lt _ (by omega)
    exact ⟨_, _, 0, by omega, by omega, fun w => sign_yes hp hq hg hs hd hH hk w, fun w => rsign_yes hp hq hg hs hd hH hk w⟩
  · exact ⟨0, 0, 1, B_pos, B_pos, fun w => sign_no hp hq hg hs hd hk w, fun w => rsign_no hp hq hg hs hd hk w⟩
set_option maxRecDepth 100000 in
set_option maxHeartbeats 16000000 in
theorem sigsof_walk (p q g h : Nat) (hp : p < B) (hq : q < B) (hg : g < B) (hh : h < B) (s d k c S : Nat) (H : Nat → Nat) (hs : s < B) (hd : d < B) (hk : k < B) (hc : c < B) (hS : S < B) (hH : ∀ j, H j < 256) (w : World) : Calls Tryz.prog 3 #[grp p q g h, gv s d k H c S] w fun e w' =>
    e = .returned (.bool true) ∧ Below w.heap.size w w' := by
  classical
  have t0 := gv_s s d k H c S
  have t1 := gv_d s d k H c S
  have t2 := gv_k s d k H c S
  have t3 := gv_h s d k H c S
  have t4 := gv_z s d k H c S
  change Calls Tryz.prog _ #[_, .agg (gvL s d k H c S).toArray] w _
  have hrow : (gvL s d k H c S).length = 52 := by unfold gvL; simp [nl, nl2]
  generalize gvL s d k H c S = row at *
  obtain ⟨C, Z, e, lC, lZ, s1, s2⟩ := both_sign (h := h) hp hq hg hs hd hH
  obtain ⟨r1, hr1⟩ : ∃ b : Bool, b = true ↔ chkOk p q g k H c S := ⟨decide (chkOk p q g k H c S), decide_eq_true_iff⟩
  obtain ⟨r2, hr2⟩ : ∃ b : Bool, b = true ↔ chkOk p q g k H C Z := ⟨decide (chkOk p q g k H C Z), decide_eq_true_iff⟩
  have c1 := fun w => chk_lit (h := h) hp hq hg hk hc hS hH hr1 w
  have c2 := fun w => rchk_lit (h := h) hp hq hg hk hc hS hH hr1 w
  have c3 := fun w => chk_lit (h := h) hp hq hg hk lC lZ hH hr2 w
  have c4 := fun w => rchk_lit (h := h) hp hq hg hk lC lZ hH hr2 w
  have es := eqS_self C Z
  have e1 : (r1 == r1) = true := by simp
  have e2 : (r2 == r2) = true := by simp
  have e3 : (e == e) = true := by simp
  have hone := u8s_one 32 H
  clear hr1 hr2 hH lC lZ
  have hR := Rep.init w
  go_enter Tryz.func3, Tryz.ntmps3
  go_wp2_with (first | go_skip | (refine' xAb hR rfl rfl rfl ?_; clear hR; intro blk w hR) | (refine' xAa hR rfl rfl inferInstance ?_; clear hR; intro blk w hR) | (refine' aFq hR rfl rfl rfl inferInstance ?_) | (refine' aGq hR rfl rfl rfl inferInstance ?_) | (refine' aHq hR rfl rfl rfl inferInstance ?_) | (refine' aDq hR rfl rfl rfl inferInstance rfl ?_; clear hR; intro w hR) | (refine' aEq hR rfl rfl rfl inferInstance rfl rfl ?_; clear hR; intro w hR) | (refine' xAy hR rfl rfl rfl inferInstance ?hm ?hn ?_; (case hm => first | with_reducible assumption | repeat (first | exact .head _ | with_reducible assumption | apply mC)); (case hn => first | rfl | simp)) | (refine' xAt hR rfl rfl rfl inferInstance ?hm ?hv ?_; (case hm => first | with_reducible assumption | repeat (first | exact .head _ | with_reducible assumption | apply mC)); (case hv => first | rfl | with_reducible assumption)) | (refine' xBh hR rfl rfl rfl inferInstance ?hm ?hv ?hn ?_; (case hm => first | with_reducible assumption | repeat (first | exact .head _ | with_reducible assumption | apply mC)); (case hv => first | with_reducible assumption | (simp only [kC, kD, kE, kF]; try rfl)); (case hn => first | rfl | simp)) | (go_at_call 4; refine (s1 _).mono ?_; rintro e w ⟨rfl, hb⟩; replace hR := hR.call hb; clear hb) | (go_at_call 5; refine (s2 _).mono ?_; rintro e w ⟨rfl, hb⟩; replace hR := hR.call hb; clear hb))
  refine xAg hR [0, 0, 0, 0, 0, 0, 0, 0, 0, 0, 0, 0, 0, 0, 0, 0, 0, 0, 0, 0, 0, 0, 0, 0, 0, 0, 0, 0, 0, 0, 0, 0, 0, 0, 0, 0, 0, 0, 0, 0, 0, 0, 0, 0, 2] [] xCt (by kernel_rfl) rfl rfl (fun K hK => ?_)
  clear hR
  repeat ((first | (refine xBj ?_) | (refine' xAs (by decide) rfl (.inl rfl) rfl ?ha ?_) | (refine' xAs (by decide) rfl (.inr rfl) rfl ?ha ?_) | (refine' xAr rfl rfl rfl inferInstance ?hm ?hn ?ha ?_; (case hm => first | with_reducible assumption | repeat (first | exact .head _ | with_reducible assumption | apply mC)); (case hn => first | rfl | simp)) | (refine' xAm rfl rfl rfl inferInstance ?hm ?hv ?hn ?ha ?_; (case hm => first | with_reducible assumption | repeat (first | exact .head _ | with_reducible assumption | apply mC)); (case hv => first | with_reducible assumption | (simp only [kC, kD, kE, kF]; try rfl)); (case hn => first | rfl | simp)) | (refine' xAi rfl rfl rfl inferInstance ?hm ?hv ?ha ?_; (case hm => first | with_reducible assumption | repeat (first | exact .head _ | with_reducible assumption | apply mC)); (case hv => first | rfl | with_reducible assumption)) | (refine' xAn rfl rfl rfl inferInstance ?hm ?hv ?hn ?ha ?_; (case hm => first | with_reducible assumption | repeat (first | exact .head _ | with_reducible assumption | apply mC)); (case hv => first | with_reducible assumption | (simp only [kC, kD, kE, kF]; try rfl)); (case hn => first | rfl | simp)) | (refine' xAj rfl rfl rfl inferInstance ?hm ?hv ?ha ?_; (case hm => first | with_reducible assumption | repeat (first | exact .head _ | with_reducible assumption | apply mC)); (case hv => first | rfl | with_reducible assumption)) | ((first | refine' xAd (by decide) rfl rfl rfl rfl (fun w => ?hq) ?ha ?_ | refine' xBf (by decide) rfl rfl rfl rfl (fun w => ?hq) ?ha ?_ | refine' xAp (by decide) rfl rfl rfl (fun w => ?hq) ?ha ?_ | refine' xAe (by decide) rfl rfl rfl (fun w => ?hq) ?ha ?_ | refine' xAo (by decide) rfl rfl rfl (fun w => ?hq) ?ha ?_ | refine' xBd (by decide) rfl rfl rfl rfl (fun w => ?hq) ?ha ?_ | refine' xBc (by decide) rfl rfl rfl rfl rfl rfl (fun w => ?hq) ?ha ?_ | refine' xBb (by decide) rfl rfl (fun w => ?hq) ?ha ?_ | refine' xAq (by decide) rfl rfl rfl (fun w => ?hq) ?ha ?_ | refine' xBe (by decide) rfl rfl rfl (fun w => ?hq) ?ha ?_); (case hq => go_simp; try rfl)) | (refine' xAh (by decide) rfl rfl rfl ?ha ?_) | (refine' xBl (by decide) rfl rfl rfl rfl ?ha ?_) | (refine' xBk (by decide) rfl ?ha ?_) | (refine' xBg rfl rfl rfl (xBi Tryz.func6 (by kernel_rfl) (by kernel_rfl) _) (fun w => c1 w) ?ha ?_) | (refine' xBg rfl rfl rfl (xBi Tryz.func6 (by kernel_rfl) (by kernel_rfl) _) (fun w => c3 w) ?ha ?_) | (refine' xBg rfl rfl rfl (xBi Tryz.func7 (by kernel_rfl) (by kernel_rfl) _) (fun w => c2 w) ?ha ?_) | (refine' xBg rfl rfl rfl (xBi Tryz.func7 (by kernel_rfl) (by kernel_rfl) _) (fun w => c4 w) ?ha ?_)); try (case ha => simp only [kP, kQ, kA, kB]; try rfl))
  refine xBs (hK _ _ ?_)
  clear hK K
  refine xBx (fun Q hQ => ?_)
  try simp only [List.nil_append, List.cons_append]
  repeat ((first | refine' xBa rfl (.inl rfl) rfl ?hk ?ha ?_ | refine' xBa rfl (.inr rfl) rfl ?hk ?ha ?_ | (refine' xAv rfl rfl rfl inferInstance rfl ?hs rfl rfl ?hn ?hk ?ha ?_; (case hs => repeat (first | exact xAx.head | apply xAx.tail)); (case hn => first | rfl | simp)) | (refine' xAl rfl rfl rfl inferInstance rfl rfl ?hs ?hn ?hl ?hk ?ha ?_; (case hs => repeat (first | exact xAx.head | apply xAx.tail)); (case hn => first | exact oD rfl | (show _ < 4; with_reducible assumption) | (simp; try omega)); (case hl => first | with_reducible assumption | (simp only [nl, kA, kB]; first | done | rfl) | rfl)) | (refine' xAw rfl rfl rfl inferInstance rfl rfl ?hvn ?hs ?hn ?hl ?hk ?ha ?_; (case hvn => first | rfl | simp); (case hs => repeat (first | exact xAx.head | apply xAx.tail)); (case hn => first | exact oD rfl | (show _ < 4; with_reducible assumption) | (simp; try omega)); (case hl => first | with_reducible assumption | (simp only [nl, kA, kB]; first | done | rfl) | rfl)) | (refine' xBm rfl (fun w => ?hq) ?hk ?ha ?_; (case hq => go_simp; try rfl))); (case hk => intro p hp; first | exact absurd hp List.not_mem_nil | (obtain rfl := List.mem_singleton.1 hp; repeat (first | exact List.Mem.head _ | with_reducible assumption | apply mC))); (case ha => simp only [kP, kQ, kA, kB]; try rfl))
  refine xBw (fun w hR => hQ _ _ ?_)
  clear hQ Q
  go_wp2_with (first | (refine' xAb hR rfl rfl rfl ?_; clear hR; intro blk w hR) | (refine' xAa hR rfl rfl inferInstance ?_; clear hR; intro blk w hR) | (refine' aFq hR rfl rfl rfl inferInstance ?_) | (refine' aGq hR rfl rfl rfl inferInstance ?_) | (refine' aHq hR rfl rfl rfl inferInstance ?_) | (refine' aDq hR rfl rfl rfl inferInstance rfl ?_; clear hR; intro w hR) | (refine' aEq hR rfl rfl rfl inferInstance rfl rfl ?_; clear hR; intro w hR) | fail)
  go_ret
  exact ⟨rfl, hR.below⟩
end Go.Proofs.YtgfoeongjhkdmaaGreat
