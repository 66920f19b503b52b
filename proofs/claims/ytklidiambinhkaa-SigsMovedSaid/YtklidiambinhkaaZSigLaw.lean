/- The laws' own helper of layer 13: alive. -/
import Derived.Test.YtklidiambinhkaaZGB
import Derived.Test.YtklidiambinhkaaZFine13
set_option linter.unusedVariables false
set_option linter.unusedSimpArgs false
namespace Go.Proofs.Ytklidiambinhkaa
open Go.RowKit
theorem num_few {n : Nat} (h : n < 18446744073709551616) : (Value.agg #[.int .u64 (n : Int), .int .u64 0, .int .u64 0, .int .u64 0]) = num n := by
  unfold num nl
  rw [wd_word h]
  have : ∀ k, k ≠ 0 → wd n k = 0 := fun k hk => by
    rw [wd_def, Nat.div_eq_of_lt]
    · rfl
    · refine Nat.lt_of_lt_of_le h ?_
      exact Nat.le_trans (by simp) (Nat.pow_le_pow_right (by decide) (Nat.one_le_iff_ne_zero.2 hk))
  rw [this 1 (by decide), this 2 (by decide), this 3 (by decide)]
theorem build_few {n : Nat} {k : Int} (hk : (n : Int) = k) (h : n < 18446744073709551616) (w : World) : (Instr.build 24 #[(0, .int .u64 k)]).run Try.prog w = .ok (num n) w := by
  subst hk
  rw [← num_few h]
  all_goals kernel_rfl
theorem build_none (w : World) : (Instr.build 24 #[]).run Try.prog w = .ok (num 0) w := by
  rw [← xCw]
  all_goals kernel_rfl
def H7 (j : Nat) : Nat := if j = 0 then 7 else 0
theorem H7_lt (j : Nat) : H7 j < 256 := by unfold H7; split <;> decide
theorem build_h7 (w : World) : (Instr.build 28 #[(0, .int .u8 7)]).run Try.prog w = .ok (.agg (u8s 32 H7).toArray) w := by
  have e : u8s 32 H7 = [Value.int .u8 7, .int .u8 0, .int .u8 0, .int .u8 0, .int .u8 0, .int .u8 0, .int .u8 0, .int .u8 0, .int .u8 0, .int .u8 0, .int .u8 0, .int .u8 0, .int .u8 0, .int .u8 0, .int .u8 0, .int .u8 0, .int .u8 0, .int .u8 0, .int .u8 0, .int .u8 0, .int .u8 0, .int .u8 0, .int .u8 0, .int .u8 0, .int .u8 0, .int .u8 0, .int .u8 0, .int .u8 0, .int .u8 0, .int .u8 0, .int .u8 0, .int .u8 0] := by rw [xCn]; rfl
  rw [e]
  first | kernel_rfl | go_simp
section
variable {p q g h s d : Nat} {H : Nat → Nat}
theorem sigC_lt (h1 : 1 < q) : sigC p q g s d H < q := by unfold sigC; exact chalN_lt (by omega) _ _ _
theorem sigS_lt (h1 : 1 < q) : sigS p q g s d H < q := by unfold sigS; exact Nat.mod_lt _ (by omega)
theorem sign_may (hg : inG p q g) (h1 : 1 < q) (hs0 : s ≠ 0) (hs : s < q) (hd0 : d ≠ 0) (hd : d < q) : signOk p q g s d := ⟨hg.1, hs0, hd0, h1, hs, hd⟩
theorem signed_ok (hg : inG p q g) (g1 : g ≠ 1) (hq : xDe q) (hs0 : s ≠ 0) (hs : s < q) : chkOk p q g (powN g s p) H (sigC p q g s d H) (sigS p q g s d H) := by
  have h1 : 1 < q := hq.1
  refine ⟨in_exp (by omega) hg s, fun h => hs0 (pow_nought hg hq g1 hs h), ⟨h1, sigC_lt h1, sigS_lt h1⟩, hg.1, ?_⟩
  unfold chkR sigS
  rw [back_pow hg h1 (sigC_lt h1)]
  rfl
end
attribute [local irreducible] Calls Instr.build Instr.buildSlice
set_option maxRecDepth 100000 in
set_option maxHeartbeats 16000000 in
theorem alive13_any (w : World) : Calls Try.prog 15 #[] w fun e w' => e = .returned (.bool true) ∧ Below w.heap.size w w' := by
  obtain ⟨n0, h0⟩ : ∃ n, n = 0 := ⟨_, rfl⟩
  obtain ⟨n1, h1⟩ : ∃ n, n = 1 := ⟨_, rfl⟩
  obtain ⟨n3, h3⟩ : ∃ n, n = 3 := ⟨_, rfl⟩
  obtain ⟨n4, h4⟩ : ∃ n, n = 4 := ⟨_, rfl⟩
  obtain ⟨n5, h5⟩ : ∃ n, n = 5 := ⟨_, rfl⟩
  obtain ⟨n9, h9⟩ : ∃ n, n = 9 := ⟨_, rfl⟩
  obtain ⟨n11, h11⟩ : ∃ n, n = 11 := ⟨_, rfl⟩
  obtain ⟨n23, h23⟩ : ∃ n, n = 23 := ⟨_, rfl⟩
  have L0 : n0 < B := lt_B (by omega)
  have L1 : n1 < B := lt_B (by omega)
  have L3 : n3 < B := lt_B (by omega)
  have L4 : n4 < B := lt_B (by omega)
  have L5 : n5 < B := lt_B (by omega)
  have L9 : n9 < B := lt_B (by omega)
  have L11 : n11 < B := lt_B (by omega)
  have L23 : n23 < B := lt_B (by omega)
  have kn := known_any h23 h11 h4 h9
  have tg := gl_g n23 n11 n4 n9
  have b0 : ∀ w, (Instr.build 24 #[]).run Try.prog w = .ok (num n0) w := fun w => by rw [h0]; exact build_none w
  have b3 := fun w => build_few (n := n3) (k := 3) (by omega) (by omega) w
  have b5 := fun w => build_few (n := n5) (k := 5) (by omega) (by omega) w
  have b11 := fun w => build_few (n := n11) (k := 11) (by omega) (by omega) w
  have bh := build_h7
  have hone7 := u8s_one 32 H7
  have q11 : xDe n11 := by rw [h11]; exact Classical.byContradiction fun h => by have := small_11; rw [smallB_no h] at this; cases this
  have g4 : inG n23 n11 n4 := by rw [h23, h11, h4]; exact ⟨⟨by decide, by decide, by decide⟩, by rw [xCj]⟩
  have s1 := fun w => sign_yes (h := n9) L23 L11 L4 L5 L3 H7_lt (sign_may g4 (by omega) (by omega) (by omega : n5 < n11) (by omega) (by omega : n3 < n11)) w
  have s2 := fun w => sign_no (h := n9) (H := H7) (s := n0) (d := n3) L23 L11 L4 L0 L3 (fun h => h.2.1 h0) w
  have s3 := fun w => sign_no (h := n9) (H := H7) (s := n5) (d := n11) L23 L11 L4 L5 L11 (fun h => absurd h.2.2.2.2.2 (by omega)) w
  obtain ⟨key, hkey⟩ : ∃ k, powN n4 n5 n23 = k := ⟨_, rfl⟩
  have x1 := gexp_lit (q := n11) (g := n4) (h := n9) (r := key) (e := 0) L23 L4 L5 (by rw [if_pos g4.1, hkey]) (if_pos g4.1)
  have k1 := signed_ok (H := H7) (s := n5) (d := n3) g4 (by omega) q11 (by omega) (by omega)
  rw [hkey] at k1
  have lC : sigC n23 n11 n4 n5 n3 H7 < n11 := sigC_lt (by omega)
  have lS : sigS n23 n11 n4 n5 n3 H7 < n11 := sigS_lt (by omega)
  generalize sigC n23 n11 n4 n5 n3 H7 = C at *
  generalize sigS n23 n11 n4 n5 n3 H7 = S at *
  have lkey : key < B := by have := k1.1.1.2.2; omega
  have c1 := fun w => chk_lit (h := n9) (res := true) L23 L11 L4 lkey (by omega : C < B) (by omega : S < B) H7_lt ⟨fun _ => k1, fun _ => rfl⟩ w
  have c2 := fun w => chk_lit (h := n9) (res := false) L23 L11 L4 L1 (by omega : C < B) (by omega : S < B) H7_lt ⟨fun h => (by cases h), fun h => absurd h1 h.2.1⟩ w
  have c3 := fun w => chk_lit (h := n9) (res := false) L23 L11 L4 L5 (by omega : C < B) (by omega : S < B) H7_lt ⟨fun h => (by cases h), fun h => absurd h.1.2 (by rw [h23, h11, h5, xCj]; decide)⟩ w
  rw [show num n1 = Value.agg #[.int .u64 1, .int .u64 0, .int .u64 0, .int .u64 0] by rw [h1]; exact (num_few (n := 1) (by decide)).symm] at c2
  rw [show num n5 = Value.agg #[.int .u64 5, .int .u64 0, .int .u64 0, .int .u64 0] by rw [h5]; exact (num_few (n := 5) (by decide)).symm] at c3
  clear h0 L0 h1 L1 h3 L3 h4 L4 h5 L5 h9 L9 h11 L11 h23 L23 q11 g4 hkey k1 lC lS lkey
  have hR := Rep.init w
  go_enter Try.func15, Try.ntmps15
  go_wp2_with (first | go_skip | (refine' xAf hR rfl rfl rfl ?_; clear hR; intro blk w hR) | (refine' xAb hR rfl rfl inferInstance ?_; clear hR; intro blk w hR) | (refine' xAc hR rfl rfl rfl inferInstance ?hm ?hn ?_; (case hm => first | with_reducible assumption | repeat (first | exact .head _ | with_reducible assumption | apply mC)); (case hn => first | rfl | simp)) | (refine' xAd hR rfl rfl rfl inferInstance ?hm ?hv ?hn ?_; (case hm => first | with_reducible assumption | repeat (first | exact .head _ | with_reducible assumption | apply mC)); (case hv => first | with_reducible assumption | (simp only [kC, kD, kE, kF]; try rfl)); (case hn => first | rfl | simp)) | (refine' xAa hR rfl rfl rfl inferInstance rfl ?hs ?zone ?zvn ?hn ?_; (case hs => repeat (first | exact xAh.head | apply xAh.tail)); (case zone => first | rfl | with_reducible assumption); (case zvn => first | rfl | simp); (case hn => first | rfl | simp); clear hR; intro w hR) | (refine' xAy hR rfl rfl rfl inferInstance ?hm ?hn ?_; (case hm => first | with_reducible assumption | repeat (first | exact .head _ | with_reducible assumption | apply mC)); (case hn => first | rfl | simp)) | (refine' xBb hR rfl rfl rfl inferInstance ?hm ?hv ?hn ?_; (case hm => first | with_reducible assumption | repeat (first | exact .head _ | with_reducible assumption | apply mC)); (case hv => first | with_reducible assumption | (simp only [kC, kD, kE, kF]; try rfl)); (case hn => first | rfl | simp)) | (go_at_call 32; refine (kn _).mono ?_; rintro e w ⟨rfl, hb⟩; replace hR := hR.call hb; clear hb) | (go_at_call 12; refine (s1 _).mono ?_; rintro e w ⟨rfl, hb⟩; replace hR := hR.call hb; clear hb) | (go_at_call 12; refine (s2 _).mono ?_; rintro e w ⟨rfl, hb⟩; replace hR := hR.call hb; clear hb) | (go_at_call 12; refine (s3 _).mono ?_; rintro e w ⟨rfl, hb⟩; replace hR := hR.call hb; clear hb) | (go_at_call 18; refine (x1 _).mono ?_; rintro e w ⟨rfl, hb⟩; replace hR := hR.call hb; clear hb) | (go_at_call 14; refine (c1 _).mono ?_; rintro e w ⟨rfl, hb⟩; replace hR := hR.call hb; clear hb) | (go_at_call 14; refine (c2 _).mono ?_; rintro e w ⟨rfl, hb⟩; replace hR := hR.call hb; clear hb) | (go_at_call 14; refine (c3 _).mono ?_; rintro e w ⟨rfl, hb⟩; replace hR := hR.call hb; clear hb) | (refine' wpList_build rfl rfl ?hrun ?_; (case hrun => simp only [List.map_toArray, List.map_cons, List.map_nil]; first | exact b0 _ | exact b3 _ | exact b5 _ | exact b11 _ | exact bh _)))
  go_ret
  exact ⟨rfl, hR.below⟩
end Go.Proofs.Ytklidiambinhkaa
