/- The sentence of Wilson, for small numbers; the laws' own helpers of layer 7. -/
import Derived.Test.YtjkkjdepmijpcaaCheck
import Derived.Test.YtjkkjdepmijpcaaWide
set_option linter.unusedSimpArgs false
set_option linter.unusedVariables false
namespace Go.Proofs.Ytjkkjdepmijpcaa
open Go.RowKit

/-! ### Plain -/
def fct : Nat → Nat
  | 0 => 1
  | n + 1 => (n + 1) * fct n
theorem dvd_fct {d : Nat} (h : 1 ≤ d) : ∀ n, d ≤ n → d ∣ fct n
  | 0, h1 => by omega
  | n + 1, h1 => by
    by_cases e : d = n + 1
    · rw [e]; exact Nat.dvd_mul_right _ _
    · exact Nat.dvd_trans (dvd_fct h n (by omega)) (Nat.dvd_mul_left _ _)
def wmod (M : Nat) : Nat → Nat
  | 0 => 1
  | k + 1 => (k + 1) * wmod M k % M
theorem wmod_spec {M : Nat} (h : 2 ≤ M) : ∀ k, wmod M k = fct k % M
  | 0 => by rw [wmod, fct, Nat.mod_eq_of_lt (by omega)]
  | k + 1 => by rw [wmod, fct, wmod_spec h k, Nat.mul_mod_mod]
theorem small_tried (n : Nat) (h2 : 2 ≤ n) (h3 : n < 1764) : smallB n = tryB n 40 2 := by
  cases h : tryB n 40 2
  · obtain ⟨d, a, b, c⟩ := tryB_no n 40 2 h
    exact smallB_div n d a b c
  · exact smallB_yes ⟨h2, by omega, tryB_spec n 40 2 (by omega) h⟩
def wilB : Nat → Nat → Bool
  | 0, _ => true
  | f + 1, m => (!tryB m 40 2 || decide (wmod m (m - 1) = m - 1)) && wilB f (m + 1)
theorem wilB_all : ∀ f m, wilB f m = true → ∀ k, m ≤ k → k < m + f → tryB k 40 2 = true → wmod k (k - 1) = k - 1
  | 0, m, _, k, h1, h2, _ => by omega
  | f + 1, m, h, k, h1, h2, ht => by
    simp only [wilB, Bool.and_eq_true, Bool.or_eq_true, Bool.not_eq_true', decide_eq_true_eq] at h
    by_cases e : k = m
    · subst e
      rcases h.1 with h3 | h3
      · rw [ht] at h3; cases h3
      · exact h3
    · exact wilB_all f (m + 1) h.2 k (by omega) (by omega) ht
theorem wil_a : wilB 250 2 = true := by decide +kernel
theorem wil_b : wilB 250 252 = true := by decide +kernel
theorem wil_c : wilB 250 502 = true := by decide +kernel
theorem wil_d : wilB 250 752 = true := by decide +kernel
theorem wil_e : wilB 250 1002 = true := by decide +kernel
theorem wil_f : wilB 250 1252 = true := by decide +kernel
theorem wil_prime {M : Nat} (h2 : 2 ≤ M) (h3 : M ≤ 1500) (ht : tryB M 40 2 = true) : wmod M (M - 1) = M - 1 := by
  by_cases a : M < 252
  · exact wilB_all _ _ wil_a M h2 (by omega) ht
  by_cases b : M < 502
  · exact wilB_all _ _ wil_b M (by omega) (by omega) ht
  by_cases c : M < 752
  · exact wilB_all _ _ wil_c M (by omega) (by omega) ht
  by_cases d : M < 1002
  · exact wilB_all _ _ wil_d M (by omega) (by omega) ht
  by_cases e : M < 1252
  · exact wilB_all _ _ wil_e M (by omega) (by omega) ht
  · exact wilB_all _ _ wil_f M (by omega) (by omega) ht
theorem wilson {M : Nat} (h2 : 2 ≤ M) (h3 : M ≤ 1500) : smallB M = decide (fct (M - 1) % M = M - 1) := by
  rw [small_tried M h2 (by omega)]
  cases h : tryB M 40 2
  · obtain ⟨d, a, b, c⟩ := tryB_no M 40 2 h
    have hd : d ≤ M - 1 := by
      have := Nat.mul_le_mul_right d a
      omega
    refine (decide_eq_false fun e => ?_).symm
    have h4 : d ∣ fct (M - 1) := dvd_fct (by omega) _ hd
    have h5 : d ∣ M := Nat.dvd_of_mod_eq_zero c
    have h6 : d ∣ fct (M - 1) % M := (Nat.dvd_mod_iff h5).2 h4
    rw [e] at h6
    have h7 : d ∣ M - (M - 1) := Nat.dvd_sub h5 h6
    have h8 := Nat.le_of_dvd (by omega) h7
    omega
  · have := wil_prime h2 h3 h
    rw [wmod_spec h2] at this
    exact (decide_eq_true this).symm

attribute [local irreducible] Calls
section
variable {P : Program} {ops : Array Oper} {rest : List Oper} {o : Oper} {a : Act} {w : World} {Q : Exit → Act → World → Prop}
theorem wpList_buildG (hg : Region.wanted o (yielded ops a.tmps) = true) {t : TypeId} {parts : Array (Nat × Operand)} (ho : o.op = .build t parts) {v : Value}
    (hrun : (Instr.build t (parts.map fun p => (p.1, a.eval p.2))).run P w = .ok v w) (h : wpList P ops Q rest (a.put o.dst v) w) : wpList P ops Q (o :: rest) a w :=
  wpList_wanted hg fun _ hK => by
    unfold Oper.wp execOp
    simp only [ho, Sem.run_bind, Sem.run_pure, Result.andThen_ok, hrun]
    exact hK _ _ h
end
theorem of7_any (n : Nat) (hn : n < 18446744073709551616) (w : World) : Calls Try.prog 20 #[.int .u64 (n : Int)] w fun e w' =>
    e = .returned (num n) ∧ Below w.heap.size w w' := by
  have hR := Rep.init w
  go_enter Try.func20, Try.ntmps20
  go_wp2_with (first | (refine' wpList_boxRep hR rfl rfl rfl ?_; clear hR; intro blk w hR) | (refine' wpList_allocRep hR rfl rfl ?hT ?_; (case hT => exact inferInstance); clear hR; intro blk w hR) | (refine' wpList_loadAll hR rfl rfl rfl ?hT ?hm ?hn ?_; (case hT => exact inferInstance); (case hm => first | with_reducible assumption | repeat (first | exact List.Mem.head _ | apply List.Mem.tail)); (case hn => rfl)) | (refine' wpList_loadRow hR rfl rfl rfl ?hT ?hm ?hv ?hn ?_; (case hT => exact inferInstance); (case hm => first | with_reducible assumption | repeat (first | exact List.Mem.head _ | apply List.Mem.tail)); (case hv => first | with_reducible assumption | (simp only [List.drop_succ_cons, List.drop_zero, List.take_succ_cons, List.take_zero]; first | done | rfl)); (case hn => rfl)) | (refine' wpList_loadCell hR rfl rfl rfl ?hT ?hm ?hv ?_; (case hT => exact inferInstance); (case hm => first | with_reducible assumption | repeat (first | exact List.Mem.head _ | apply List.Mem.tail)); (case hv => first | rfl | with_reducible assumption)) | (refine' wpList_storeAll hR rfl rfl rfl ?hT rfl ?hs rfl rfl ?hn ?_; (case hT => exact inferInstance); (case hs => repeat (first | exact SetAt.head | apply SetAt.tail)); (case hn => rfl); clear hR; intro w hR) | (refine' wpList_storeCell hR rfl rfl rfl ?hT rfl rfl ?hs ?hn ?hl ?_; (case hT => exact inferInstance); (case hs => repeat (first | exact SetAt.head | apply SetAt.tail)); (case hn => first | exact of_decide_eq_true rfl | (show _ < 4; with_reducible assumption) | (simp; done) | (simp; omega)); (case hl => first | with_reducible assumption | (simp only [List.set_cons_zero, List.set_cons_succ]; done) | (simp only [List.set_cons_zero, List.set_cons_succ]; rfl) | (simp only [nl, List.set_cons_zero, List.set_cons_succ]; done) | (simp only [nl, List.set_cons_zero, List.set_cons_succ]; rfl) | rfl); clear hR; intro w hR) | (go_at_call 37; refine (of_any n hn _).mono ?_; rintro e w ⟨rfl, hb⟩; replace hR := hR.call hb; clear hb))
  (refine' bodyPost_ret (results_c Try.results20 rfl (hR.loadAll (P := Try.prog) (ty := 24) ?hm ?hn)) rfl ⟨?_, hR.below⟩; (case hm => first | with_reducible assumption | repeat (first | exact List.Mem.head _ | apply List.Mem.tail)); (case hn => rfl))
  rfl
theorem o7_lit (n : Nat) (k : Int) (hk : (n : Int) = k) (hn : n < 18446744073709551616) (w : World) : Calls Try.prog 20 #[.int .u64 k] w fun e w' =>
    e = .returned (num n) ∧ Below w.heap.size w w' := by
  subst hk; exact of7_any n hn w
theorem sm_lit (n : Nat) (k : Int) (b : Bool) (hk : (n : Int) = k) (hn : n < 18446744073709551616) (hb : smallB n = b) (w : World) : Calls Try.prog 23 #[.int .u64 k] w fun e w' => e = .returned (.bool b) ∧ Below w.heap.size w w' := by
  subst hk; exact small_lit n b hn hb w

attribute [local irreducible] Instr.build
set_option maxRecDepth 100000 in
set_option maxHeartbeats 2000000 in
theorem alive7_any (w : World) : Calls Try.prog 22 #[] w fun e w' => e = .returned (.bool true) ∧ Below w.heap.size w w' := by
  obtain ⟨n3, h3⟩ : ∃ n, n = 3 := ⟨_, rfl⟩
  obtain ⟨n7, h7⟩ : ∃ n, n = 7 := ⟨_, rfl⟩
  obtain ⟨n9, h9⟩ : ∃ n, n = 9 := ⟨_, rfl⟩
  have o3 := o7_lit n3 3 (by omega) (by omega)
  have o7 := o7_lit n7 7 (by omega) (by omega)
  have o9 := o7_lit n9 9 (by omega) (by omega)
  have s2 := sm_lit 2 2 true rfl (by decide) (by rw [small_tried 2 (by decide) (by decide)]; decide)
  have s1 := sm_lit 1 1 false rfl (by decide) (smallB_lt 1 (by decide))
  have sg := sm_lit 4294967291 4294967291 true rfl (by decide) small_great
  have sx := sm_lit 4294967296 4294967296 false rfl (by decide) (smallB_ge _ (by decide))
  have c7 := check_small n7 0 true (by omega) B_pos (by rw [h7, small_tried 7 (by decide) (by decide)]; decide)
  have c9 := check_small n9 0 false (by omega) B_pos (by rw [h9, small_tried 9 (by decide) (by decide)]; decide)
  have c73 := check_small n7 n3 false (by omega) (lt_B (by omega)) (by rw [h3]; simp)
  clear h3 h7 h9
  obtain ⟨n0, h0⟩ : ∃ n, n = 0 := ⟨_, rfl⟩
  have hR := Rep.init w
  have br1 : ∀ (n : Nat) (w : World), (Instr.build 71 #[(0, .agg (nl n).toArray)]).run Try.prog w = .ok (rsn n n0) w := fun n w => by rw [h0]; exact build_r1 n w
  have e7 : ∀ n, rsn n 0 = rsn n n0 := fun n => by rw [h0]
  rw [e7] at c7 c9
  clear e7
  clear h0
  go_enter Try.func22, Try.ntmps22
  go_wp2_with (first | (refine' wpList_boxRep hR rfl rfl rfl ?_; clear hR; intro blk w hR) | (refine' wpList_allocRep hR rfl rfl ?hT ?_; (case hT => exact inferInstance); clear hR; intro blk w hR) | (refine' wpList_loadAll hR rfl rfl rfl ?hT ?hm ?hn ?_; (case hT => exact inferInstance); (case hm => first | with_reducible assumption | repeat (first | exact List.Mem.head _ | apply List.Mem.tail)); (case hn => rfl)) | (refine' wpList_loadRow hR rfl rfl rfl ?hT ?hm ?hv ?hn ?_; (case hT => exact inferInstance); (case hm => first | with_reducible assumption | repeat (first | exact List.Mem.head _ | apply List.Mem.tail)); (case hv => first | with_reducible assumption | (simp only [List.drop_succ_cons, List.drop_zero, List.take_succ_cons, List.take_zero]; first | done | rfl)); (case hn => rfl)) | (refine' wpList_loadCell hR rfl rfl rfl ?hT ?hm ?hv ?_; (case hT => exact inferInstance); (case hm => first | with_reducible assumption | repeat (first | exact List.Mem.head _ | apply List.Mem.tail)); (case hv => first | rfl | with_reducible assumption)) | (refine' wpList_storeAll hR rfl rfl rfl ?hT rfl ?hs rfl rfl ?hn ?_; (case hT => exact inferInstance); (case hs => repeat (first | exact SetAt.head | apply SetAt.tail)); (case hn => rfl); clear hR; intro w hR) | (refine' wpList_storeCell hR rfl rfl rfl ?hT rfl rfl ?hs ?hn ?hl ?_; (case hT => exact inferInstance); (case hs => repeat (first | exact SetAt.head | apply SetAt.tail)); (case hn => first | exact of_decide_eq_true rfl | (show _ < 4; with_reducible assumption) | (simp; done) | (simp; omega)); (case hl => first | with_reducible assumption | (simp only [List.set_cons_zero, List.set_cons_succ]; done) | (simp only [List.set_cons_zero, List.set_cons_succ]; rfl) | (simp only [nl, List.set_cons_zero, List.set_cons_succ]; done) | (simp only [nl, List.set_cons_zero, List.set_cons_succ]; rfl) | rfl); clear hR; intro w hR) | (refine' wpList_loadAllG hR rfl rfl rfl ?hT ?hm ?hn ?_; (case hT => exact inferInstance); (case hm => first | with_reducible assumption | repeat (first | exact List.Mem.head _ | apply List.Mem.tail)); (case hn => rfl)) | (refine' wpList_loadCellG hR rfl rfl rfl ?hT ?hm ?hv ?_; (case hT => exact inferInstance); (case hm => first | with_reducible assumption | repeat (first | exact List.Mem.head _ | apply List.Mem.tail)); (case hv => first | rfl | with_reducible assumption)) | (go_at_call 23; refine (s2 _).mono ?_; rintro e w ⟨rfl, hb⟩; replace hR := hR.call hb; clear hb) | (go_at_call 23; refine (s1 _).mono ?_; rintro e w ⟨rfl, hb⟩; replace hR := hR.call hb; clear hb) | (go_at_call 23; refine (sg _).mono ?_; rintro e w ⟨rfl, hb⟩; replace hR := hR.call hb; clear hb) | (go_at_call 23; refine (sx _).mono ?_; rintro e w ⟨rfl, hb⟩; replace hR := hR.call hb; clear hb) | (go_at_call 20; refine (o3 _).mono ?_; rintro e w ⟨rfl, hb⟩; replace hR := hR.call hb; clear hb) | (go_at_call 20; refine (o7 _).mono ?_; rintro e w ⟨rfl, hb⟩; replace hR := hR.call hb; clear hb) | (go_at_call 20; refine (o9 _).mono ?_; rintro e w ⟨rfl, hb⟩; replace hR := hR.call hb; clear hb) | (go_at_call 47; refine (c7 _).mono ?_; rintro e w ⟨rfl, hb⟩; replace hR := hR.call hb; clear hb) | (go_at_call 47; refine (c9 _).mono ?_; rintro e w ⟨rfl, hb⟩; replace hR := hR.call hb; clear hb) | (go_at_call 47; refine (c73 _).mono ?_; rintro e w ⟨rfl, hb⟩; replace hR := hR.call hb; clear hb) | (refine' wpList_buildG (t := 71) rfl rfl ?hrun ?_; (case hrun => simp only [List.map_toArray, List.map_cons, List.map_nil]; first | exact br1 _ _ | exact build_r2 _ _ _)))
  go_ret
  exact ⟨rfl, hR.below⟩
end Go.Proofs.Ytjkkjdepmijpcaa
