/- The walk of balefirelaw13.SigsBounds. -/
import Derived.Test.YtklidiambinhkaaZSigLaw
import Derived.Test.YtklidiambinhkaaZGD
set_option linter.unusedVariables false
set_option linter.unusedSimpArgs false
namespace Go.Proofs.Ytklidiambinhkaa
open Go.RowKit
attribute [local irreducible] Calls Instr.build Instr.buildSlice
set_option maxRecDepth 100000 in
set_option maxHeartbeats 16000000 in
theorem sbounds_walk (p q g h : Nat) (hp : p < B) (hq : q < B) (hg : g < B) (hh : h < B) (s d k c S : Nat) (H : Nat → Nat) (hs : s < B) (hd : d < B) (hk : k < B) (hc : c < B) (hS : S < B) (hH : ∀ j, H j < 256) (w : World) : Calls Try.prog 3 #[grp p q g h, gv s d k H c S] w fun e w' =>
    e = .returned (.bool true) ∧ Below w.heap.size w w' := by
  classical
  have al := fun w => alive13_any w
  have tq := gl_q p q g h
  have t0 := gv_s s d k H c S
  have t1 := gv_d s d k H c S
  have t2 := gv_k s d k H c S
  have t3 := gv_h s d k H c S
  have t4 := gv_z s d k H c S
  have t5 := gv_c s d k H c S
  have t6 := gv_w s d k H c S
  have c1 := xCi hs hq rfl
  have c2 := xCi hd hq rfl
  have c3 := xCi hc hq rfl
  have c4 := xCi hS hq rfl
  have k1 := cmpN_ge s q
  have k2 := cmpN_ge d q
  have k3 := cmpN_lt c q
  have k4 := cmpN_lt S q
  generalize cmpN s q = z1 at *
  generalize cmpN d q = z2 at *
  generalize cmpN c q = z3 at *
  generalize cmpN S q = z4 at *
  obtain ⟨res, hres⟩ : ∃ b : Bool, decide (chkOk p q g k H c S) = b := ⟨_, rfl⟩
  have ch := fun w => chk_lit (h := h) (res := res) hp hq hg hk hc hS hH (by rw [← hres]; exact decide_eq_true_iff) w
  have hr : res = false ∨ (res = true ∧ decide (z3 < 0) = true ∧ decide (z4 < 0) = true ∧ (∀ w, Calls Try.prog 16 #[grp p q g h, num k] w fun e' w' => e' = .returned (.bool true) ∧ Below w.heap.size w w') ∧ eqN k 1 = false) := by
    by_cases ho : chkOk p q g k H c S
    · refine .inr ⟨by rw [← hres]; exact decide_eq_true ho, decide_eq_true (k3.2 ho.2.2.1.2.1), decide_eq_true (k4.2 ho.2.2.1.2.2), fun w => gin_lit (s := true) hp hq hk ⟨fun _ => ho.1, fun _ => rfl⟩ w, xCy hk (lt_B (by decide)) ho.2.1⟩
    · exact .inl (by rw [← hres]; exact decide_eq_false ho)
  obtain ⟨C', S', e, hcs, he⟩ : ∃ C' S' : Nat, ∃ e : Int, (∀ w, Calls Try.prog 12 #[grp p q g h, num s, .agg (u8s 32 H).toArray, num d] w fun e' w' => e' = .returned (.tuple #[sigV C' S', .int .i64 e]) ∧ Below w.heap.size w w') ∧
      ((e = 0 ∧ decide (0 ≤ z1) = false ∧ decide (0 ≤ z2) = false ∧ eqN s 0 = false ∧ eqN d 0 = false) ∨ e = 1) := by
    by_cases ho : signOk p q g s d
    · exact ⟨_, _, 0, fun w => sign_yes hp hq hg hs hd hH ho w, .inl ⟨rfl, decide_eq_false fun h => absurd (k1.1 h) (by have := ho.2.2.2.2.1; omega), decide_eq_false fun h => absurd (k2.1 h) (by have := ho.2.2.2.2.2; omega), xCy hs B_pos ho.2.1, xCy hd B_pos ho.2.2.1⟩⟩
    · exact ⟨_, _, 1, fun w => sign_no hp hq hg hs hd ho w, .inr rfl⟩
  have hc' : (e = 0 ∧ decide (0 ≤ z1) = false ∧ decide (0 ≤ z2) = false ∧ eqN s 0 = false ∧ eqN d 0 = false) ∨ (e = 1 ∧ decide (0 ≤ z1) = true) ∨ (e = 1 ∧ decide (0 ≤ z1) = false ∧ decide (0 ≤ z2) = true) ∨ (e = 1 ∧ decide (0 ≤ z1) = false ∧ decide (0 ≤ z2) = false ∧ eqN s 0 = true) ∨ (e = 1 ∧ decide (0 ≤ z1) = false ∧ decide (0 ≤ z2) = false ∧ eqN s 0 = false ∧ eqN d 0 = true) ∨ (e = 1 ∧ decide (0 ≤ z1) = false ∧ decide (0 ≤ z2) = false ∧ eqN s 0 = false ∧ eqN d 0 = false) := by
    rcases he with he | he
    · exact .inl he
    · cases decide (0 ≤ z1) <;> cases decide (0 ≤ z2) <;> cases eqN s 0 <;> cases eqN d 0 <;> simp_all
  clear he k1 k2 k3 k4 hres
  change Calls Try.prog _ #[_, .agg (gvL s d k H c S).toArray] w _
  generalize gvL s d k H c S = row at *
  have hR := Rep.init w
  rcases hc' with ⟨rfl, f1, f2, f3, f4⟩ | ⟨rfl, f1⟩ | ⟨rfl, f1, f2⟩ | ⟨rfl, f1, f2, f3⟩ | ⟨rfl, f1, f2, f3, f4⟩ | ⟨rfl, f1, f2, f3, f4⟩
  all_goals
    rcases hr with rfl | ⟨rfl, r1, r2, r3, r4⟩
    · go_enter Try.func3, Try.ntmps3
      go_wp2_with (first | go_skip | (refine' xAf hR rfl rfl rfl ?_; clear hR; intro blk w hR) | (refine' xAb hR rfl rfl inferInstance ?_; clear hR; intro blk w hR) | (refine' xAc hR rfl rfl rfl inferInstance ?hm ?hn ?_; (case hm => first | with_reducible assumption | repeat (first | exact .head _ | with_reducible assumption | apply mC)); (case hn => first | rfl | simp)) | (refine' xAd hR rfl rfl rfl inferInstance ?hm ?hv ?hn ?_; (case hm => first | with_reducible assumption | repeat (first | exact .head _ | with_reducible assumption | apply mC)); (case hv => first | with_reducible assumption | (simp only [kC, kD, kE, kF]; try rfl)); (case hn => first | rfl | simp)) | (refine' xAa hR rfl rfl rfl inferInstance rfl ?hs ?zone ?zvn ?hn ?_; (case hs => repeat (first | exact xAh.head | apply xAh.tail)); (case zone => first | rfl | with_reducible assumption); (case zvn => first | rfl | simp); (case hn => first | rfl | simp); clear hR; intro w hR) | (refine' xAy hR rfl rfl rfl inferInstance ?hm ?hn ?_; (case hm => first | with_reducible assumption | repeat (first | exact .head _ | with_reducible assumption | apply mC)); (case hn => first | rfl | simp)) | (refine' xBb hR rfl rfl rfl inferInstance ?hm ?hv ?hn ?_; (case hm => first | with_reducible assumption | repeat (first | exact .head _ | with_reducible assumption | apply mC)); (case hv => first | with_reducible assumption | (simp only [kC, kD, kE, kF]; try rfl)); (case hn => first | rfl | simp)) | (go_at_call 12; refine (hcs _).mono ?_; rintro e w ⟨rfl, hb⟩; replace hR := hR.call hb; clear hb) | (go_at_call 13; refine (c1 _).mono ?_; rintro e w ⟨rfl, hb⟩; replace hR := hR.call hb; clear hb) | (go_at_call 13; refine (c2 _).mono ?_; rintro e w ⟨rfl, hb⟩; replace hR := hR.call hb; clear hb) | (go_at_call 14; refine (ch _).mono ?_; rintro e w ⟨rfl, hb⟩; replace hR := hR.call hb; clear hb) | (go_at_call 15; refine (al _).mono ?_; rintro e w ⟨rfl, hb⟩; replace hR := hR.call hb; clear hb))
      go_ret
      exact ⟨rfl, hR.below⟩
    · go_enter Try.func3, Try.ntmps3
      go_wp2_with (first | go_skip | (refine' xAf hR rfl rfl rfl ?_; clear hR; intro blk w hR) | (refine' xAb hR rfl rfl inferInstance ?_; clear hR; intro blk w hR) | (refine' xAc hR rfl rfl rfl inferInstance ?hm ?hn ?_; (case hm => first | with_reducible assumption | repeat (first | exact .head _ | with_reducible assumption | apply mC)); (case hn => first | rfl | simp)) | (refine' xAd hR rfl rfl rfl inferInstance ?hm ?hv ?hn ?_; (case hm => first | with_reducible assumption | repeat (first | exact .head _ | with_reducible assumption | apply mC)); (case hv => first | with_reducible assumption | (simp only [kC, kD, kE, kF]; try rfl)); (case hn => first | rfl | simp)) | (refine' xAa hR rfl rfl rfl inferInstance rfl ?hs ?zone ?zvn ?hn ?_; (case hs => repeat (first | exact xAh.head | apply xAh.tail)); (case zone => first | rfl | with_reducible assumption); (case zvn => first | rfl | simp); (case hn => first | rfl | simp); clear hR; intro w hR) | (refine' xAy hR rfl rfl rfl inferInstance ?hm ?hn ?_; (case hm => first | with_reducible assumption | repeat (first | exact .head _ | with_reducible assumption | apply mC)); (case hn => first | rfl | simp)) | (refine' xBb hR rfl rfl rfl inferInstance ?hm ?hv ?hn ?_; (case hm => first | with_reducible assumption | repeat (first | exact .head _ | with_reducible assumption | apply mC)); (case hv => first | with_reducible assumption | (simp only [kC, kD, kE, kF]; try rfl)); (case hn => first | rfl | simp)) | (go_at_call 12; refine (hcs _).mono ?_; rintro e w ⟨rfl, hb⟩; replace hR := hR.call hb; clear hb) | (go_at_call 13; refine (c1 _).mono ?_; rintro e w ⟨rfl, hb⟩; replace hR := hR.call hb; clear hb) | (go_at_call 13; refine (c2 _).mono ?_; rintro e w ⟨rfl, hb⟩; replace hR := hR.call hb; clear hb) | (go_at_call 14; refine (ch _).mono ?_; rintro e w ⟨rfl, hb⟩; replace hR := hR.call hb; clear hb) | (go_at_call 15; refine (al _).mono ?_; rintro e w ⟨rfl, hb⟩; replace hR := hR.call hb; clear hb) | (go_at_call 13; refine (c3 _).mono ?_; rintro e w ⟨rfl, hb⟩; replace hR := hR.call hb; clear hb) | (go_at_call 13; refine (c4 _).mono ?_; rintro e w ⟨rfl, hb⟩; replace hR := hR.call hb; clear hb) | (go_at_call 16; refine (r3 _).mono ?_; rintro e w ⟨rfl, hb⟩; replace hR := hR.call hb; clear hb))
      go_ret
      exact ⟨rfl, hR.below⟩
end Go.Proofs.Ytklidiambinhkaa
