/- The sentence of Wilson, for small numbers; the laws' own helpers of layer 7. -/
import Derived.Test.YtdagdfcbnhfdkaaLO
import Derived.Test.YtdagdfcbnhfdkaaLWide
set_option linter.unusedVariables false
set_option linter.unusedSimpArgs false
namespace Go.Proofs.Ytdagdfcbnhfdkaa
open Go.RowKit
theorem small_tried (n : Nat) (h2 : 2 ≤ n) (h3 : n < 1764) : smallB n = tryB n 40 2 := by
  cases h : tryB n 40 2
  · obtain ⟨d, a, b, c⟩ := tryB_no n 40 2 h
    exact smallB_div n d a b c
  · exact smallB_yes ⟨h2, by omega, tryB_spec n 40 2 (by omega) h⟩
attribute [local irreducible] Calls
section
variable {P : Program} {ops : Array Oper} {rest : List Oper} {o : Oper} {a : Act} {w : World} {Q : Exit → Act → World → Prop}
theorem wpList_buildG (hg : Region.wanted o (yielded ops a.tmps) = true) {t : TypeId} {parts : Array (Nat × Operand)} (ho : o.op = .build t parts) {v : Value}
    (hrun : (Instr.build t (parts.map fun p => (p.1, a.eval p.2))).run P w = .ok v w) (h : wpList P ops Q rest (a.put o.dst v) w) : wpList P ops Q (o :: rest) a w :=
  wpList_wanted hg fun _ hK => by
    unfold Oper.wp execOp
    simp only [ho, Sem.run_bind, Sem.run_pure, Result.andThen_ok, hrun]
    exact hK _ _ h
end
theorem of7_any (n : Nat) (hn : n < 18446744073709551616) (w : World) : Calls Try.prog 16 #[.int .u64 (n : Int)] w fun e w' =>
    e = .returned (num n) ∧ Below w.heap.size w w' := by
  have hR := Rep.init w
  go_enter Try.func16, Try.ntmps16
  go_wp2_with (first | (refine' xAg hR rfl rfl rfl ?_; clear hR; intro blk w hR) | (refine' xAb hR rfl rfl inferInstance ?_; clear hR; intro blk w hR) | (refine' xAf hR rfl rfl rfl inferInstance ?hm ?hn ?_; (case hm => first | with_reducible assumption | repeat (first | exact .head _ | apply mT)); (case hn => first | rfl | simp)) | (refine' xAe hR rfl rfl rfl inferInstance ?hm ?hv ?hn ?_; (case hm => first | with_reducible assumption | repeat (first | exact .head _ | apply mT)); (case hv => first | with_reducible assumption | (simp only [kC, kD, kE, kF]; try rfl)); (case hn => first | rfl | simp)) | (refine' xAc hR rfl rfl rfl inferInstance ?hm ?hv ?_; (case hm => first | with_reducible assumption | repeat (first | exact .head _ | apply mT)); (case hv => first | rfl | with_reducible assumption)) | (refine' xAd hR rfl rfl rfl inferInstance rfl ?hs ?zone ?zvn ?hn ?_; (case hs => repeat (first | exact xAh.head | apply xAh.tail)); (case zone => first | rfl | with_reducible assumption); (case zvn => first | rfl | simp); (case hn => first | rfl | simp); clear hR; intro w hR) | (refine' xAa hR rfl rfl rfl inferInstance rfl rfl ?hs ?hn ?hl ?_; (case hs => repeat (first | exact xAh.head | apply xAh.tail)); (case hn => first | exact oD rfl | (show _ < 4; with_reducible assumption) | (simp; try omega)); (case hl => first | with_reducible assumption | (simp only [nl, kA, kB]; first | done | rfl) | rfl); clear hR; intro w hR) | (go_at_call 40; refine (of_any n hn _).mono ?_; rintro e w ⟨rfl, hb⟩; replace hR := hR.call hb; clear hb))
  (refine' bodyPost_ret (xBy Try.results16 rfl (hR.loadAll (P := Try.prog) (ty := 24) ?hm ?hn)) rfl ⟨?_, hR.below⟩; (case hm => first | with_reducible assumption | repeat (first | exact .head _ | apply mT)); (case hn => first | rfl | simp))
  rfl
theorem o7_lit (n : Nat) (k : Int) (hk : (n : Int) = k) (hn : n < 18446744073709551616) (w : World) : Calls Try.prog 16 #[.int .u64 k] w fun e w' =>
    e = .returned (num n) ∧ Below w.heap.size w w' := by
  subst hk; exact of7_any n hn w
theorem sm_lit (n : Nat) (k : Int) (b : Bool) (hk : (n : Int) = k) (hn : n < 18446744073709551616) (hb : smallB n = b) (w : World) : Calls Try.prog 36 #[.int .u64 k] w fun e w' => e = .returned (.bool b) ∧ Below w.heap.size w w' := by
  subst hk; exact small_lit n b hn hb w
attribute [local irreducible] Instr.build
set_option maxRecDepth 100000 in
set_option maxHeartbeats 2000000 in
theorem alive7_any (w : World) : Calls Try.prog 12 #[] w fun e w' => e = .returned (.bool true) ∧ Below w.heap.size w w' := by
  obtain ⟨n3, h3⟩ : ∃ n, n = 3 := ⟨_, rfl⟩
  obtain ⟨n7, h7⟩ : ∃ n, n = 7 := ⟨_, rfl⟩
  obtain ⟨n9, h9⟩ : ∃ n, n = 9 := ⟨_, rfl⟩
  have o3 := o7_lit n3 3 (by omega) (by omega)
  have o7 := o7_lit n7 7 (by omega) (by omega)
  have o9 := o7_lit n9 9 (by omega) (by omega)
  have s2 := sm_lit 2 2 true rfl (by decide) (by rw [small_tried 2 (by decide) (by decide)]; decide)
  have s1 := sm_lit 1 1 false rfl (by decide) (smallB_lt 1 (by decide))
  have sg := sm_lit 4294967291 4294967291 true rfl (by decide) small_great
  have sx := sm_lit 4294967296 4294967296 false rfl (by decide) (smallB_ge _ (by decide))
  have c7 := check_small n7 0 true (by omega) B_pos (by rw [h7, small_tried 7 (by decide) (by decide)]; decide)
  have c9 := check_small n9 0 false (by omega) B_pos (by rw [h9, small_tried 9 (by decide) (by decide)]; decide)
  have c73 := check_small n7 n3 false (by omega) (lt_B (by omega)) (by rw [h3]; simp)
  clear h3 h7 h9
  obtain ⟨n0, h0⟩ : ∃ n, n = 0 := ⟨_, rfl⟩
  have hR := Rep.init w
  have br1 : ∀ (n : Nat) (w : World), (Instr.build 27 #[(0, .agg (nl n).toArray)]).run Try.prog w = .ok (rsn n n0) w := fun n w => by rw [h0]; exact build_r1 n w
  have e7 : ∀ n, rsn n 0 = rsn n n0 := fun n => by rw [h0]
  rw [e7] at c7 c9
  clear e7
  clear h0
  go_enter Try.func12, Try.ntmps12
  go_wp2_with (first | (refine' xAg hR rfl rfl rfl ?_; clear hR; intro blk w hR) | (refine' xAb hR rfl rfl inferInstance ?_; clear hR; intro blk w hR) | (refine' xAf hR rfl rfl rfl inferInstance ?hm ?hn ?_; (case hm => first | with_reducible assumption | repeat (first | exact .head _ | apply mT)); (case hn => first | rfl | simp)) | (refine' xAe hR rfl rfl rfl inferInstance ?hm ?hv ?hn ?_; (case hm => first | with_reducible assumption | repeat (first | exact .head _ | apply mT)); (case hv => first | with_reducible assumption | (simp only [kC, kD, kE, kF]; try rfl)); (case hn => first | rfl | simp)) | (refine' xAc hR rfl rfl rfl inferInstance ?hm ?hv ?_; (case hm => first | with_reducible assumption | repeat (first | exact .head _ | apply mT)); (case hv => first | rfl | with_reducible assumption)) | (refine' xAd hR rfl rfl rfl inferInstance rfl ?hs ?zone ?zvn ?hn ?_; (case hs => repeat (first | exact xAh.head | apply xAh.tail)); (case zone => first | rfl | with_reducible assumption); (case zvn => first | rfl | simp); (case hn => first | rfl | simp); clear hR; intro w hR) | (refine' xAa hR rfl rfl rfl inferInstance rfl rfl ?hs ?hn ?hl ?_; (case hs => repeat (first | exact xAh.head | apply xAh.tail)); (case hn => first | exact oD rfl | (show _ < 4; with_reducible assumption) | (simp; try omega)); (case hl => first | with_reducible assumption | (simp only [nl, kA, kB]; first | done | rfl) | rfl); clear hR; intro w hR) | (refine' xAu hR rfl rfl rfl inferInstance ?hm ?hn ?_; (case hm => first | with_reducible assumption | repeat (first | exact .head _ | apply mT)); (case hn => first | rfl | simp)) | (refine' xAp hR rfl rfl rfl inferInstance ?hm ?hv ?_; (case hm => first | with_reducible assumption | repeat (first | exact .head _ | apply mT)); (case hv => first | rfl | with_reducible assumption)) | (go_at_call 36; refine (s2 _).mono ?_; rintro e w ⟨rfl, hb⟩; replace hR := hR.call hb; clear hb) | (go_at_call 36; refine (s1 _).mono ?_; rintro e w ⟨rfl, hb⟩; replace hR := hR.call hb; clear hb) | (go_at_call 36; refine (sg _).mono ?_; rintro e w ⟨rfl, hb⟩; replace hR := hR.call hb; clear hb) | (go_at_call 36; refine (sx _).mono ?_; rintro e w ⟨rfl, hb⟩; replace hR := hR.call hb; clear hb) | (go_at_call 16; refine (o3 _).mono ?_; rintro e w ⟨rfl, hb⟩; replace hR := hR.call hb; clear hb) | (go_at_call 16; refine (o7 _).mono ?_; rintro e w ⟨rfl, hb⟩; replace hR := hR.call hb; clear hb) | (go_at_call 16; refine (o9 _).mono ?_; rintro e w ⟨rfl, hb⟩; replace hR := hR.call hb; clear hb) | (go_at_call 14; refine (c7 _).mono ?_; rintro e w ⟨rfl, hb⟩; replace hR := hR.call hb; clear hb) | (go_at_call 14; refine (c9 _).mono ?_; rintro e w ⟨rfl, hb⟩; replace hR := hR.call hb; clear hb) | (go_at_call 14; refine (c73 _).mono ?_; rintro e w ⟨rfl, hb⟩; replace hR := hR.call hb; clear hb) | (refine' wpList_buildG (t := 27) rfl rfl ?hrun ?_; (case hrun => simp only [List.map_toArray, List.map_cons, List.map_nil]; first | exact br1 _ _ | exact build_r2 _ _ _)))
  go_ret
  exact ⟨rfl, hR.below⟩
end Go.Proofs.Ytdagdfcbnhfdkaa
