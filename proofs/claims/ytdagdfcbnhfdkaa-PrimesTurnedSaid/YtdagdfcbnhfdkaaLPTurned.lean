/- The walk of balefirelaw07.PrimesTurned. -/
import Derived.Test.YtdagdfcbnhfdkaaLW
import Derived.Test.YtdagdfcbnhfdkaaLX
set_option linter.unusedVariables false
set_option linter.unusedSimpArgs false
namespace Go.Proofs.Ytdagdfcbnhfdkaa
open Go.RowKit
attribute [local irreducible] Calls Instr.build Instr.buildSlice
theorem cutR_low {bb off k cap c1 : Nat} (hk : c1 ≤ k) (h1 : 0 < c1) (hkc : k ≤ cap) (hcm : cap ≤ maxLen) : ∀ w, (Instr.sliceAt 25 (.slice (some ⟨bb, off, none⟩) k cap) none (some (.int .i64 (c1 : Int))) none).run Try.prog w = .ok (.slice (some ⟨bb, off, none⟩) c1 cap) w := fun w => by
  unfold maxLen at hcm
  have g0 : 0 ≤ (c1 : Int) := by omega
  have g1 : (c1 : Int) ≤ (cap : Int) := by omega
  have g2 : ¬ cap = 0 := by omega
  go_simp
theorem cutR_high {bb off k cap c1 : Nat} (hk : c1 ≤ k) (h1 : 0 < c1) (hkc : k ≤ cap) (hcm : cap ≤ maxLen) : ∃ ad ca, (∀ w, (Instr.sliceAt 25 (.slice (some ⟨bb, off, none⟩) k cap) (some (.int .i64 (c1 : Int))) none none).run Try.prog w = .ok (.slice (some ad) (k - c1) ca) w) ∧ (0 < k - c1 → ad = ⟨bb, off + c1 * 9, none⟩) := by
  unfold maxLen at hcm
  have g0 : 0 ≤ (c1 : Int) := by omega
  have g1 : (c1 : Int) ≤ (k : Int) := by omega
  have g2 : (k : Int) ≤ (cap : Int) := by omega
  by_cases hc : cap = c1
  · subst hc
    obtain rfl : k = cap := by omega
    exact ⟨⟨bb, off, none⟩, 0, fun w => by go_simp, fun h => absurd h (by omega)⟩
  · refine ⟨⟨bb, off + c1 * 9, none⟩, cap - c1, fun w => ?_, fun _ => rfl⟩
    go_simp
set_option maxRecDepth 100000 in
set_option maxHeartbeats 8000000 in
theorem pturned_walk (W : World) (l : List Value) (r : RT) (wh : Int) (hr : RAt W.heap.size W [] r l) (hs : SmallT r) (hw0 : 0 ≤ wh ∧ wh < 256) : Calls Try.prog 3 #[.agg l.toArray, .int .u8 wh] W fun e w' =>
    e = .returned (.bool true) ∧ Below W.heap.size W w' := by
  have al := fun w => alive7_any w
  have hR := Rep.init W
  have cs := fun (L : List (Nat × Obj)) (w : World) (hR : Rep W.heap.size W L w) => rsize_any r (hr.any (L := L)) hR
  have ct := fun (L : List (Nat × Obj)) (w : World) (hR : Rep W.heap.size W L w) => twin_any r hs hr hR
  obtain ⟨y, hy⟩ : ∃ y, rszN r = y := ⟨_, rfl⟩
  rw [hy] at cs
  clear hy
  obtain ⟨yb, hyb⟩ : ∃ b, decide (20000 < y) = b := ⟨_, rfl⟩
  cases yb
  case true =>
    obtain ⟨t, pa, k, pc, rfl, hn, ht⟩ := hr.row
    clear hr ct hs
    go_enter Try.func3, Try.ntmps3
    go_wp2_with (first | go_skip | (refine' xAg hR rfl rfl rfl ?_; clear hR; intro blk w hR) | (refine' xAb hR rfl rfl inferInstance ?_; clear hR; intro blk w hR) | (refine' xAf hR rfl rfl rfl inferInstance ?hm ?hn ?_; (case hm => first | with_reducible assumption | repeat (first | exact .head _ | with_reducible assumption | apply mC)); (case hn => first | rfl | simp)) | (refine' xAe hR rfl rfl rfl inferInstance ?hm ?hv ?hn ?_; (case hm => first | with_reducible assumption | repeat (first | exact .head _ | with_reducible assumption | apply mC)); (case hv => first | with_reducible assumption | (simp only [kC, kD, kE, kF]; try rfl)); (case hn => first | rfl | simp)) | (refine' xAc hR rfl rfl rfl inferInstance ?hm ?hv ?_; (case hm => first | with_reducible assumption | repeat (first | exact .head _ | with_reducible assumption | apply mC)); (case hv => first | rfl | with_reducible assumption)) | (refine' xAd hR rfl rfl rfl inferInstance rfl ?hs ?zone ?zvn ?hn ?_; (case hs => repeat (first | exact xAh.head | apply xAh.tail)); (case zone => first | rfl | with_reducible assumption); (case zvn => first | rfl | simp); (case hn => first | rfl | simp); clear hR; intro w hR) | (refine' xAa hR rfl rfl rfl inferInstance rfl rfl ?hs ?hn ?hl ?_; (case hs => repeat (first | exact xAh.head | apply xAh.tail)); (case hn => first | exact oD rfl | (show _ < 4; with_reducible assumption) | (simp; try omega)); (case hl => first | with_reducible assumption | (simp only [nl, kA, kB]; first | done | rfl) | rfl); clear hR; intro w hR) | (refine' xAu hR rfl rfl rfl inferInstance ?hm ?hn ?_; (case hm => first | with_reducible assumption | repeat (first | exact .head _ | with_reducible assumption | apply mC)); (case hn => first | rfl | simp)) | (refine' xAp hR rfl rfl rfl inferInstance ?hm ?hv ?_; (case hm => first | with_reducible assumption | repeat (first | exact .head _ | with_reducible assumption | apply mC)); (case hv => first | rfl | with_reducible assumption)) | (refine' xBc hR rfl rfl rfl inferInstance ?hm ?hv ?hn ?_; (case hm => first | with_reducible assumption | repeat (first | exact .head _ | with_reducible assumption | apply mC)); (case hv => first | with_reducible assumption | (simp only [kC, kD, kE, kF]; try rfl)); (case hn => first | rfl | simp)) | (go_at_call 12; refine (al _).mono ?_; rintro e w ⟨rfl, hb⟩; replace hR := hR.call hb; clear hb) | (go_at_call 13; refine (cs _ _ hR).mono ?_; clear hR; rintro e w ⟨rfl, hR⟩))
    go_ret
    exact ⟨rfl, hR.below⟩
  have hyb' : ¬ 20000 < y := of_decide_eq_false hyb
  by_cases hg : goodR r ∧ cntR r ≤ 32
  case neg =>
    have cc := fun (L : List (Nat × Obj)) (w : World) (hR : Rep W.heap.size W L w) => check_no (hr.any (L := L)) hg hR
    obtain ⟨t, pa, k, pc, rfl, hn, ht⟩ := hr.row
    clear hg hr ct hs
    go_enter Try.func3, Try.ntmps3
    go_wp2_with (first | go_skip | (refine' xAg hR rfl rfl rfl ?_; clear hR; intro blk w hR) | (refine' xAb hR rfl rfl inferInstance ?_; clear hR; intro blk w hR) | (refine' xAf hR rfl rfl rfl inferInstance ?hm ?hn ?_; (case hm => first | with_reducible assumption | repeat (first | exact .head _ | with_reducible assumption | apply mC)); (case hn => first | rfl | simp)) | (refine' xAe hR rfl rfl rfl inferInstance ?hm ?hv ?hn ?_; (case hm => first | with_reducible assumption | repeat (first | exact .head _ | with_reducible assumption | apply mC)); (case hv => first | with_reducible assumption | (simp only [kC, kD, kE, kF]; try rfl)); (case hn => first | rfl | simp)) | (refine' xAc hR rfl rfl rfl inferInstance ?hm ?hv ?_; (case hm => first | with_reducible assumption | repeat (first | exact .head _ | with_reducible assumption | apply mC)); (case hv => first | rfl | with_reducible assumption)) | (refine' xAd hR rfl rfl rfl inferInstance rfl ?hs ?zone ?zvn ?hn ?_; (case hs => repeat (first | exact xAh.head | apply xAh.tail)); (case zone => first | rfl | with_reducible assumption); (case zvn => first | rfl | simp); (case hn => first | rfl | simp); clear hR; intro w hR) | (refine' xAa hR rfl rfl rfl inferInstance rfl rfl ?hs ?hn ?hl ?_; (case hs => repeat (first | exact xAh.head | apply xAh.tail)); (case hn => first | exact oD rfl | (show _ < 4; with_reducible assumption) | (simp; try omega)); (case hl => first | with_reducible assumption | (simp only [nl, kA, kB]; first | done | rfl) | rfl); clear hR; intro w hR) | (refine' xAu hR rfl rfl rfl inferInstance ?hm ?hn ?_; (case hm => first | with_reducible assumption | repeat (first | exact .head _ | with_reducible assumption | apply mC)); (case hn => first | rfl | simp)) | (refine' xAp hR rfl rfl rfl inferInstance ?hm ?hv ?_; (case hm => first | with_reducible assumption | repeat (first | exact .head _ | with_reducible assumption | apply mC)); (case hv => first | rfl | with_reducible assumption)) | (refine' xBc hR rfl rfl rfl inferInstance ?hm ?hv ?hn ?_; (case hm => first | with_reducible assumption | repeat (first | exact .head _ | with_reducible assumption | apply mC)); (case hv => first | with_reducible assumption | (simp only [kC, kD, kE, kF]; try rfl)); (case hn => first | rfl | simp)) | (go_at_call 12; refine (al _).mono ?_; rintro e w ⟨rfl, hb⟩; replace hR := hR.call hb; clear hb) | (go_at_call 13; refine (cs _ _ hR).mono ?_; clear hR; rintro e w ⟨rfl, hR⟩) | (go_at_call 14; refine (cc _ _ hR).mono ?_; clear hR; rintro e w ⟨rfl, hR⟩))
    go_ret
    exact ⟨rfl, hR.below⟩
  have cc := fun (L : List (Nat × Obj)) (w : World) (hR : Rep W.heap.size W L w) => check_yes (hr.any (L := L)) hg hR
  cases r with
  | leaf => exact hr.elim
  | node n t k p =>
  have hr' := hr
  obtain ⟨hn, ht, a, cap, V, rfl, hkc, hcm, hmem, hsub⟩ := hr'
  have tv := rr_v n t (.slice a k cap)
  have tn := rr_n n t (.slice a k cap)
  by_cases hk0 : k = 0
  · subst hk0
    clear hg hr hs ct hmem hsub
    go_enter Try.func3, Try.ntmps3
    go_wp2_with (first | go_skip | (refine' xAg hR rfl rfl rfl ?_; clear hR; intro blk w hR) | (refine' xAb hR rfl rfl inferInstance ?_; clear hR; intro blk w hR) | (refine' xAf hR rfl rfl rfl inferInstance ?hm ?hn ?_; (case hm => first | with_reducible assumption | repeat (first | exact .head _ | with_reducible assumption | apply mC)); (case hn => first | rfl | simp)) | (refine' xAe hR rfl rfl rfl inferInstance ?hm ?hv ?hn ?_; (case hm => first | with_reducible assumption | repeat (first | exact .head _ | with_reducible assumption | apply mC)); (case hv => first | with_reducible assumption | (simp only [kC, kD, kE, kF]; try rfl)); (case hn => first | rfl | simp)) | (refine' xAc hR rfl rfl rfl inferInstance ?hm ?hv ?_; (case hm => first | with_reducible assumption | repeat (first | exact .head _ | with_reducible assumption | apply mC)); (case hv => first | rfl | with_reducible assumption)) | (refine' xAd hR rfl rfl rfl inferInstance rfl ?hs ?zone ?zvn ?hn ?_; (case hs => repeat (first | exact xAh.head | apply xAh.tail)); (case zone => first | rfl | with_reducible assumption); (case zvn => first | rfl | simp); (case hn => first | rfl | simp); clear hR; intro w hR) | (refine' xAa hR rfl rfl rfl inferInstance rfl rfl ?hs ?hn ?hl ?_; (case hs => repeat (first | exact xAh.head | apply xAh.tail)); (case hn => first | exact oD rfl | (show _ < 4; with_reducible assumption) | (simp; try omega)); (case hl => first | with_reducible assumption | (simp only [nl, kA, kB]; first | done | rfl) | rfl); clear hR; intro w hR) | (refine' xAu hR rfl rfl rfl inferInstance ?hm ?hn ?_; (case hm => first | with_reducible assumption | repeat (first | exact .head _ | with_reducible assumption | apply mC)); (case hn => first | rfl | simp)) | (refine' xAp hR rfl rfl rfl inferInstance ?hm ?hv ?_; (case hm => first | with_reducible assumption | repeat (first | exact .head _ | with_reducible assumption | apply mC)); (case hv => first | rfl | with_reducible assumption)) | (refine' xBc hR rfl rfl rfl inferInstance ?hm ?hv ?hn ?_; (case hm => first | with_reducible assumption | repeat (first | exact .head _ | with_reducible assumption | apply mC)); (case hv => first | with_reducible assumption | (simp only [kC, kD, kE, kF]; try rfl)); (case hn => first | rfl | simp)) | (go_at_call 12; refine (al _).mono ?_; rintro e w ⟨rfl, hb⟩; replace hR := hR.call hb; clear hb) | (go_at_call 13; refine (cs _ _ hR).mono ?_; clear hR; rintro e w ⟨rfl, hR⟩) | (go_at_call 14; refine (cc _ _ hR).mono ?_; clear hR; rintro e w ⟨rfl, hR⟩))
    go_ret
    exact ⟨rfl, hR.below⟩
  have hk32 : k < 32 := Nat.lt_of_lt_of_le (cntR_len n t k p) hg.2
  obtain ⟨h32, -, hrise⟩ := turn_big hg.1 (by omega)
  have k0 : ¬ (k : Int) = 0 := by omega
  obtain ⟨c, hc⟩ : ∃ c : Nat, wh.toNat % k = c := ⟨_, rfl⟩
  have hck : c < k := by rw [← hc]; exact Nat.mod_lt _ (by omega)
  have hrem : wh.tmod (k : Int) = (c : Int) := by
    rw [Int.tmod_eq_emod_of_nonneg hw0.1, ← hc, Int.natCast_emod, Int.toNat_of_nonneg hw0.1]
  have g0 : 0 ≤ (c : Int) := by omega
  have g1 : (c : Int) < (k : Int) := by omega
  obtain ⟨c1, hc1⟩ : ∃ x, c + 1 = x := ⟨_, rfl⟩
  have e1 : IntKind.i64.wrap ((c : Int) + 1) = (c1 : Int) := by rw [IntKind.wrap_i64]; omega
  have w1 : IntKind.i64.wrap wh = wh := by rw [IntKind.wrap_i64]; omega
  have w2 : IntKind.i64.wrap (c : Int) = (c : Int) := by rw [IntKind.wrap_i64]; omega
  have g2 : 0 ≤ (c1 : Int) := by omega
  have g3 : (c1 : Int) ≤ (k : Int) := by omega
  have g4 : (c1 : Int) ≤ (cap : Int) := by omega
  have g5 : (k : Int) ≤ (cap : Int) := by omega
  obtain ⟨bb, off, rfl, hmr⟩ := hmem hk0
  have cl := cutR_low (bb := bb) (off := off) (by omega : c1 ≤ k) (by omega) hkc hcm
  obtain ⟨d, hd⟩ : ∃ d, k - c1 = d := ⟨_, rfl⟩
  obtain ⟨ad, ca, ch, had⟩ := cutR_high (bb := bb) (off := off) (by omega : c1 ≤ k) (by omega) hkc hcm
  obtain ⟨tc, ac, kc, cc', hVc, -, -⟩ := (hsub c hck).row
  have lV : ∀ j, j < k → (V j).length = 9 := fun j hj => (hsub j hj).len
  have oV : ∀ j, j < k → ∀ u ∈ V j, u.oneCell' = true := fun j hj => (hsub j hj).one
  have r9 := fun (L : List (Nat × Obj)) (w : World) (hR : Rep W.heap.size W L w) => xCe (hmr w (hR.weaken (List.nil_sublist _)) c hck) (lV c hck)
  rw [hVc] at r9
  generalize (p c).num = nc at *
  rw [hd] at ch had
  have hdk : ∀ j, j < d → c1 + j < k := fun j hj => by omega
  have c2b : c1 + 1 ≤ 1000000 := by omega
  have c3b : c1 + 1 + d ≤ 1000000 := by omega
  have hn2 : ∀ w, Rep W.heap.size W [] w → ∀ j u, (rowsR (fun j => V (c1 + j)) d)[j]? = some u → w.cell? (ad.add j) = some u := fun w hw j u hj => by
    by_cases h0 : d = 0
    · subst h0
      cases hj
    · rw [had (by omega)]
      exact rowsR_cell d (fun j hj => lV (c1 + j) (hdk j hj)) (fun j hj => by
        have := hmr w hw (c1 + j) (hdk j hj)
        rwa [show off + (c1 + j) * 9 = off + c1 * 9 + j * 9 by omega] at this) j u hj
  replace hn2 := Held.mk hn2
  replace hdk := Held.mk hdk
  replace hd := Held.mk hd
  replace hmr := Held.mk hmr
  replace lV := Held.mk lV
  replace oV := Held.mk oV
  replace hVc := Held.mk hVc
  replace had := Held.mk had
  clear hmem
  replace hr := Held.mk hr
  replace hs := Held.mk hs
  replace hg := Held.mk hg
  replace hrise := Held.mk hrise
  replace hsub := Held.mk hsub
  replace hc := Held.mk hc
  have c1p : 0 < c1 := by omega
  have c1b : c1 ≤ 1000000 := by omega
  have c1k : c1 ≤ k := by omega
  replace hc1 := Held.mk hc1
  go_enter Try.func3, Try.ntmps3
  go_wp2_with (first | go_skip | (refine' xAg hR rfl rfl rfl ?_; clear hR; intro blk w hR) | (refine' xAb hR rfl rfl inferInstance ?_; clear hR; intro blk w hR) | (refine' xAf hR rfl rfl rfl inferInstance ?hm ?hn ?_; (case hm => first | with_reducible assumption | repeat (first | exact .head _ | with_reducible assumption | apply mC)); (case hn => first | rfl | simp)) | (refine' xAe hR rfl rfl rfl inferInstance ?hm ?hv ?hn ?_; (case hm => first | with_reducible assumption | repeat (first | exact .head _ | with_reducible assumption | apply mC)); (case hv => first | with_reducible assumption | (simp only [kC, kD, kE, kF]; try rfl)); (case hn => first | rfl | simp)) | (refine' xAc hR rfl rfl rfl inferInstance ?hm ?hv ?_; (case hm => first | with_reducible assumption | repeat (first | exact .head _ | with_reducible assumption | apply mC)); (case hv => first | rfl | with_reducible assumption)) | (refine' xAd hR rfl rfl rfl inferInstance rfl ?hs ?zone ?zvn ?hn ?_; (case hs => repeat (first | exact xAh.head | apply xAh.tail)); (case zone => first | rfl | with_reducible assumption); (case zvn => first | rfl | simp); (case hn => first | rfl | simp); clear hR; intro w hR) | (refine' xAa hR rfl rfl rfl inferInstance rfl rfl ?hs ?hn ?hl ?_; (case hs => repeat (first | exact xAh.head | apply xAh.tail)); (case hn => first | exact oD rfl | (show _ < 4; with_reducible assumption) | (simp; try omega)); (case hl => first | with_reducible assumption | (simp only [nl, kA, kB]; first | done | rfl) | rfl); clear hR; intro w hR) | (refine' xAu hR rfl rfl rfl inferInstance ?hm ?hn ?_; (case hm => first | with_reducible assumption | repeat (first | exact .head _ | with_reducible assumption | apply mC)); (case hn => first | rfl | simp)) | (refine' xAp hR rfl rfl rfl inferInstance ?hm ?hv ?_; (case hm => first | with_reducible assumption | repeat (first | exact .head _ | with_reducible assumption | apply mC)); (case hv => first | rfl | with_reducible assumption)) | (refine' xBc hR rfl rfl rfl inferInstance ?hm ?hv ?hn ?_; (case hm => first | with_reducible assumption | repeat (first | exact .head _ | with_reducible assumption | apply mC)); (case hv => first | with_reducible assumption | (simp only [kC, kD, kE, kF]; try rfl)); (case hn => first | rfl | simp)) | (go_at_call 12; refine (al _).mono ?_; rintro e w ⟨rfl, hb⟩; replace hR := hR.call hb; clear hb) | (go_at_call 13; refine (cs _ _ hR).mono ?_; clear hR; rintro e w ⟨rfl, hR⟩) | (go_at_call 14; refine (cc _ _ hR).mono ?_; clear hR; rintro e w ⟨rfl, hR⟩) | (go_at_call 15; refine (ct _ _ hR).mono ?_; clear hR; rintro e w ⟨M, l1, rfl, htw, hR⟩; obtain ⟨_, _, gt, ct', ut, Vt, rfl, htw⟩ := htw; replace htw := Held.mk htw; replace hR := hR.permT List.perm_append_comm; simp only [List.cons_append, List.nil_append] at hR))
  obtain ⟨n0, hn0⟩ : ∃ n, n = 0 := ⟨_, rfl⟩
  obtain ⟨n1, hn1⟩ : ∃ n, n = 1 := ⟨_, rfl⟩
  have o0 := o7_lit n0 0 (by omega) (by omega)
  have o1 := o7_lit n1 1 (by omega) (by omega)
  replace hn0 := Held.mk hn0
  replace hn1 := Held.mk hn1
  obtain ⟨b6, hb6⟩ : ∃ x, x = blk := ⟨_, rfl⟩
  subst hb6
  obtain ⟨b2, hb2⟩ : ∃ x, x = blk := ⟨_, rfl⟩
  subst hb2
  rename_i K0 k0
  try simp only [Act.put, kA, kB, List.setIfInBounds_toArray]
  clear cs cc al
  refine wp_region_F hR 21 mixed rfl ?_
  clear hR
  refine fHeads [(b2, .cells (rrow n t (.slice (some ⟨bb, off, none⟩) k cap)).toArray 27)] [1, 1, 1, 1, 1, 2, 1, 1, 1, 1, 1, 2, 2, 1, 1, 1, 1, 1, 2, 2, 2] 6 rfl (by repeat (first | exact xBw | refine xBq (by repeat (first | exact .head _ | with_reducible assumption | apply mC)) ?_)) (by repeat (first | exact xBw | refine xBq (by repeat (first | exact .head _ | with_reducible assumption | apply mC)) ?_)) rfl (by decide +kernel) (fun K hK => ?_)
  repeat ((first | (refine' xBe (by decide) rfl rfl rfl rfl rfl rfl cl ?ha ?_) | (refine' xBe (by decide) rfl rfl rfl rfl rfl rfl ch ?ha ?_) | (refine' hd_loadKP rfl rfl rfl r9 ?ha ?_) | (refine xBo ?_) | (refine' xAz (by decide) rfl (.inl rfl) rfl ?ha ?_) | (refine' xAz (by decide) rfl (.inr rfl) rfl ?ha ?_) | (refine' xAy rfl rfl rfl inferInstance ?hm ?hn ?ha ?_; (case hm => first | with_reducible assumption | repeat (first | exact .head _ | with_reducible assumption | apply mC)); (case hn => first | rfl | simp)) | (refine' xAr rfl rfl rfl inferInstance ?hm ?hv ?hn ?ha ?_; (case hm => first | with_reducible assumption | repeat (first | exact .head _ | with_reducible assumption | apply mC)); (case hv => first | with_reducible assumption | (simp only [kC, kD, kE, kF]; try rfl)); (case hn => first | rfl | simp)) | (refine' xAn rfl rfl rfl inferInstance ?hm ?hv ?ha ?_; (case hm => first | with_reducible assumption | repeat (first | exact .head _ | with_reducible assumption | apply mC)); (case hv => first | rfl | with_reducible assumption)) | (refine' xAs rfl rfl rfl inferInstance ?hm ?hv ?hn ?ha ?_; (case hm => first | with_reducible assumption | repeat (first | exact .head _ | with_reducible assumption | apply mC)); (case hv => first | with_reducible assumption | (simp only [kC, kD, kE, kF]; try rfl)); (case hn => first | rfl | simp)) | (refine' xAl rfl rfl rfl inferInstance ?hm ?hv ?ha ?_; (case hm => first | with_reducible assumption | repeat (first | exact .head _ | with_reducible assumption | apply mC)); (case hv => first | rfl | with_reducible assumption)) | ((first | refine' xAj (by decide) rfl rfl rfl rfl (fun w => ?hq) ?ha ?_ | refine' xBh (by decide) rfl rfl rfl rfl (fun w => ?hq) ?ha ?_ | refine' xAw (by decide) rfl rfl rfl (fun w => ?hq) ?ha ?_ | refine' xAi (by decide) rfl rfl rfl (fun w => ?hq) ?ha ?_ | refine' xAv (by decide) rfl rfl rfl (fun w => ?hq) ?ha ?_ | refine' xBi (by decide) rfl rfl rfl rfl (fun w => ?hq) ?ha ?_ | refine' xBe (by decide) rfl rfl rfl rfl rfl rfl (fun w => ?hq) ?ha ?_ | refine' xBj (by decide) rfl rfl (fun w => ?hq) ?ha ?_ | refine' xAx (by decide) rfl rfl rfl (fun w => ?hq) ?ha ?_ | refine' xBg (by decide) rfl rfl rfl (fun w => ?hq) ?ha ?_); (case hq => go_simp; try rfl)) | (refine' xAm (by decide) rfl rfl rfl ?ha ?_) | (refine' xBp (by decide) rfl rfl rfl rfl ?ha ?_) | (refine' xBn (by decide) rfl ?ha ?_)); try (case ha => simp only [kP, kQ, kA, kB]; try rfl))
  refine xBx (hK _ _ ?_)
  clear hK K
  refine f_at [5, 11] (by decide +kernel) rfl ?_
  have step2 : ∀ (p q : Nat × Obj) (L : List (Nat × Obj)), (p :: q :: L).Perm (q :: p :: L) := fun p q L => List.Perm.swap _ _ _
  refine f_is 5 ?_
  refine f_app0 (news := rowsR V c1) rfl rfl rfl rfl rfl rfl c1p c1b (rowsR_len c1 fun j hj => lV.out j (Nat.lt_of_lt_of_le hj c1k)) (fun w hw => rowsR_cell c1 (fun j hj => lV.out j (Nat.lt_of_lt_of_le hj c1k)) (fun j hj => hmr.out w (hw.weaken (List.nil_sublist _)) j (Nat.lt_of_lt_of_le hj c1k))) (rowsR_one c1 fun j hj => oV.out j (Nat.lt_of_lt_of_le hj c1k)) (by repeat (first | exact xBw | refine xBq (by repeat (first | exact .head _ | apply mC)) ?_)) (fun g1 cap1 cur1 q1 q2 q3 q4 => ?goA) ?goB
  case' goA =>
    simp only [Act.put, kA, kB, List.setIfInBounds_toArray]
    refine f_at [11] (by decide +kernel) rfl ?_
    refine f_is 11 ?_
    refine f_new rfl rfl (isNew_rsn1 rfl rfl rfl) (by repeat (first | exact xBw | refine xBq (by repeat (first | exact .head _ | apply mC)) ?_)) (fun bs => ?_) f_nil
    simp only [Act.put, kA, kB, List.setIfInBounds_toArray]
    refine f_at [12] (by decide +kernel) rfl ?_
    refine f_is 12 ?_
    refine f_app1 (news := rrow nc tc (.slice ac kc cc')) rfl rfl rfl rfl rfl rfl (List.Perm.swap _ _ _) q1 q2 q3 c2b rfl (fun w hw j u hj => own_cell hw (by repeat (first | exact .head _ | apply mC)) hj) (rrow_cells _ _ _ _ _) (by repeat (first | exact xBw | refine xBq (by repeat (first | exact .head _ | apply mC)) ?_)) (fun g2 cap2 cur2 s1 s2 s3 s4 => ?_) f_nil
    simp only [Act.put, kA, kB, List.setIfInBounds_toArray]
  case' goB =>
    refine f_is 11 ?_
    refine f_new rfl rfl (isNew_rsn1 rfl rfl rfl) (by repeat (first | exact xBw | refine xBq (by repeat (first | exact .head _ | apply mC)) ?_)) (fun bs => ?_) f_nil
    simp only [Act.put, kA, kB, List.setIfInBounds_toArray]
    refine f_at [5] (by decide +kernel) rfl ?_
    refine f_is 5 ?_
    refine f_app0 (news := rowsR V c1) rfl rfl rfl rfl rfl rfl c1p c1b (rowsR_len c1 fun j hj => lV.out j (Nat.lt_of_lt_of_le hj c1k)) (fun w hw => rowsR_cell c1 (fun j hj => lV.out j (Nat.lt_of_lt_of_le hj c1k)) (fun j hj => hmr.out w (hw.weaken (List.nil_sublist _)) j (Nat.lt_of_lt_of_le hj c1k))) (rowsR_one c1 fun j hj => oV.out j (Nat.lt_of_lt_of_le hj c1k)) (by repeat (first | exact xBw | refine xBq (by repeat (first | exact .head _ | apply mC)) ?_)) (fun g1 cap1 cur1 q1 q2 q3 q4 => ?_) f_nil
    simp only [Act.put, kA, kB, List.setIfInBounds_toArray]
    refine f_at [12] (by decide +kernel) rfl ?_
    refine f_is 12 ?_
    refine f_app1 (news := rrow nc tc (.slice ac kc cc')) rfl rfl rfl rfl rfl rfl (List.Perm.refl _) q1 q2 q3 c2b rfl (fun w hw j u hj => own_cell hw (by repeat (first | exact .head _ | apply mC)) hj) (rrow_cells _ _ _ _ _) (by repeat (first | exact xBw | refine xBq (by repeat (first | exact .head _ | apply mC)) ?_)) (fun g2 cap2 cur2 s1 s2 s3 s4 => ?_) f_nil
    simp only [Act.put, kA, kB, List.setIfInBounds_toArray]
  all_goals
    refine f_at [18] (by decide +kernel) rfl ?_
    refine f_is 18 ?_
    refine f_app1 (news := rowsR (fun j => V (c1 + j)) d) rfl rfl rfl rfl rfl rfl (List.Perm.refl _) s1 s2 s3 c3b (rowsR_len d fun j hj => lV.out (c1 + j) (hdk.out j hj)) (fun w hw => hn2.out w (hw.weaken (List.nil_sublist _))) (rowsR_one d fun j hj => oV.out (c1 + j) (hdk.out j hj)) (by repeat (first | exact xBw | refine xBq (by repeat (first | exact .head _ | apply mC)) ?_)) (fun g3 cap3 cur3 v1 v2 v3 v4 => ?_) f_nil
    simp only [Act.put, kA, kB, List.setIfInBounds_toArray]
    refine f_at [19] (by decide +kernel) rfl ?_
    refine f_is 19 ?_
    refine f_y rfl rfl (yields_field (u := .pointer (some ⟨b6, 8, none⟩)) rfl rfl rfl (fun w => by go_simp)) (by repeat (first | exact xBw | refine xBq (by repeat (first | exact .head _ | apply mC)) ?_)) ?_ f_nil
    simp only [Act.put, kA, kB, List.setIfInBounds_toArray]
    refine f_at [20] (by decide +kernel) rfl ?_
    refine f_is 20 ?_
    refine f_s rfl rfl (yields_storeCell (l := rrow n t (.slice (some ⟨gt, 0, none⟩) k ct')) (l' := rrow n t (.slice (some ⟨g3, 0, none⟩) (c1 + 1 + d) cap3)) (t := 27) rfl rfl rfl inferInstance rfl rfl (by rw [rrow_length]; decide) rfl (by repeat (first | exact xAh.head | apply xAh.tail))) (by repeat (first | exact xBw | refine xBq (by repeat (first | exact .head _ | apply mC)) ?_)) ?_ f_nil
    refine f_end (by decide +kernel) (fun w hR => ?_)
    simp only [Exit.then]
    refine k0 _ _ ?_
    have hkd : c1 + d = k := by have := hd.out; omega
    have cA : ∀ L, (g3, Obj.cells cur3.toArray 27) ∈ L → ∀ w, Rep W.heap.size W L w → Calls Try.prog 14 #[.agg (rrow n t (.slice (some ⟨g3, 0, none⟩) (c1 + 1 + d) cap3)).toArray] w fun e w' => e = .returned (.bool false) ∧ Rep W.heap.size W L w' := fun L hg w hR =>
      check_no (twice_at (L := L) hn ht hc1.out hkd hsub.out q4 (by rw [s4, hVc.out]) v1 v2 v3 v4 hg) (fun h => twice_no hck h.1) hR
    have cW : ∀ s, s < B → (s ≤ 1 ∨ n ≤ s) → ∀ (L : List (Nat × Obj)) (w : World), Rep W.heap.size W L w → Calls Try.prog 14 #[.agg (rrow n s (.slice (some ⟨bb, off, none⟩) k cap)).toArray] w fun e w' => e = .returned (.bool false) ∧ Rep W.heap.size W L w' := fun s hs1 hs2 L w hR => by
      obtain ⟨_, _, a', cap', V', e1, e2, e3, e4, e5⟩ := hr.out
      have e1' : (Value.slice (some ⟨bb, off, none⟩) k cap) = .slice a' k cap' := by
        have := congrArg (fun l => l[8]?) e1
        exact Option.some.inj this
      have hr2 : RAt W.heap.size W [] (.node n s k p) (rrow n s (.slice (some ⟨bb, off, none⟩) k cap)) := ⟨hn, hs1, a', cap', V', by rw [e1'], e2, e3, e4, e5⟩
      exact check_no (hr2.any (L := L)) (fun h => wit_no h32 hs2 h.1) hR
    have cW0 := cW n0 (lt_B (by rw [hn0.out]; decide)) (.inl (by rw [hn0.out]; decide))
    have cW1 := cW n1 (lt_B (by rw [hn1.out]; decide)) (.inl (by rw [hn1.out]; decide))
    have cWn := cW n hn (.inr (Nat.le_refl n))
    clear cW
    clear q1 q2 q3 q4 s1 s2 s3 s4 v1 v2 v3 v4 cl ch r9
    generalize c1 + 1 + d = kk at *
    try simp only [Act.put, kA, kB, List.setIfInBounds_toArray]
    by_cases hc0 : c = 0
    · have t0 : ¬ 0 < (c : Int) := by omega
      have t0' : decide (0 < (c : Int)) = false := decide_eq_false t0
      go_wp2_with (first | go_skip | (refine' xAg hR rfl rfl rfl ?_; clear hR; intro blk w hR) | (refine' xAb hR rfl rfl inferInstance ?_; clear hR; intro blk w hR) | (refine' xAf hR rfl rfl rfl inferInstance ?hm ?hn ?_; (case hm => first | with_reducible assumption | repeat (first | exact .head _ | with_reducible assumption | apply mC)); (case hn => first | rfl | simp)) | (refine' xAe hR rfl rfl rfl inferInstance ?hm ?hv ?hn ?_; (case hm => first | with_reducible assumption | repeat (first | exact .head _ | with_reducible assumption | apply mC)); (case hv => first | with_reducible assumption | (simp only [kC, kD, kE, kF]; try rfl)); (case hn => first | rfl | simp)) | (refine' xAc hR rfl rfl rfl inferInstance ?hm ?hv ?_; (case hm => first | with_reducible assumption | repeat (first | exact .head _ | with_reducible assumption | apply mC)); (case hv => first | rfl | with_reducible assumption)) | (refine' xAd hR rfl rfl rfl inferInstance rfl ?hs ?zone ?zvn ?hn ?_; (case hs => repeat (first | exact xAh.head | apply xAh.tail)); (case zone => first | rfl | with_reducible assumption); (case zvn => first | rfl | simp); (case hn => first | rfl | simp); clear hR; intro w hR) | (refine' xAa hR rfl rfl rfl inferInstance rfl rfl ?hs ?hn ?hl ?_; (case hs => repeat (first | exact xAh.head | apply xAh.tail)); (case hn => first | exact oD rfl | (show _ < 4; with_reducible assumption) | (simp; try omega)); (case hl => first | with_reducible assumption | (simp only [nl, kA, kB]; first | done | rfl) | rfl); clear hR; intro w hR) | (refine' xAu hR rfl rfl rfl inferInstance ?hm ?hn ?_; (case hm => first | with_reducible assumption | repeat (first | exact .head _ | with_reducible assumption | apply mC)); (case hn => first | rfl | simp)) | (refine' xAp hR rfl rfl rfl inferInstance ?hm ?hv ?_; (case hm => first | with_reducible assumption | repeat (first | exact .head _ | with_reducible assumption | apply mC)); (case hv => first | rfl | with_reducible assumption)) | (refine' xBc hR rfl rfl rfl inferInstance ?hm ?hv ?hn ?_; (case hm => first | with_reducible assumption | repeat (first | exact .head _ | with_reducible assumption | apply mC)); (case hv => first | with_reducible assumption | (simp only [kC, kD, kE, kF]; try rfl)); (case hn => first | rfl | simp)) | (go_at_call 15; refine (ct _ _ hR).mono ?_; clear hR; rintro e w ⟨M2, l2, rfl, htw2, hR⟩; obtain ⟨_, _, gt2, ct2, ut2, Vt2, rfl, htw2⟩ := htw2; replace htw2 := Held.mk htw2; replace hR := hR.permT List.perm_append_comm; simp only [List.cons_append, List.nil_append] at hR) | (refine' wpList_storeWit hR rfl rfl rfl rfl (by repeat (first | exact xAh.head | apply xAh.tail)) ?_; clear hR; intro w hR) | (go_at_call 16; refine (o0 _).mono ?_; rintro e w ⟨rfl, hb⟩; replace hR := hR.call hb; clear hb) | (go_at_call 16; refine (o1 _).mono ?_; rintro e w ⟨rfl, hb⟩; replace hR := hR.call hb; clear hb) | (go_at_call 14; refine (cA _ (by repeat (first | exact .head _ | apply mC)) _ hR).mono ?_; clear hR; rintro e w ⟨rfl, hR⟩) | (go_at_call 14; refine (check_yes (tw_at (L := _) (fun q hq => by repeat (first | exact List.mem_append_right _ hq | apply mC)) (show TwAt M2 (.node n t k p) (rrow n t (.slice (some ⟨gt2, 0, none⟩) k ct2)) from ⟨hn, ht, gt2, ct2, ut2, Vt2, rfl, htw2.out⟩)) hg.out hR).mono ?_; clear hR; rintro e w ⟨rfl, hR⟩) | (go_at_call 14; refine (cW0 _ _ hR).mono ?_; clear hR; rintro e w ⟨rfl, hR⟩) | (go_at_call 14; refine (cW1 _ _ hR).mono ?_; clear hR; rintro e w ⟨rfl, hR⟩) | (go_at_call 14; refine (cWn _ _ hR).mono ?_; clear hR; rintro e w ⟨rfl, hR⟩))
      go_ret
      exact ⟨rfl, hR.below⟩
    · obtain ⟨c0, hc0'⟩ : ∃ x, x + 1 = c := ⟨c - 1, by omega⟩
      have t0 : 0 < (c : Int) := by omega
      have t0' : decide (0 < (c : Int)) = true := decide_eq_true t0
      have e2 : IntKind.i64.wrap ((c : Int) - 1) = (c0 : Int) := by rw [IntKind.wrap_i64]; omega
      have g6 : 0 ≤ (c0 : Int) := by omega
      have g7 : (c0 : Int) < (k : Int) := by omega
      have hc0k : c0 < k := by omega
      have cn := fun (L : List (Nat × Obj)) (w : World) (hR : Rep W.heap.size W L w) => twin_node n t k p hs.out hr.out hR
      obtain ⟨v0, hv0⟩ : ∃ x, V c0 = x := ⟨_, rfl⟩
      obtain ⟨v1, hv1⟩ : ∃ x, V c = x := ⟨_, rfl⟩
      have r8 := fun (L : List (Nat × Obj)) (w : World) (hR : Rep W.heap.size W L w) => xCe (hmr.out w (hR.weaken (List.nil_sublist _)) c0 hc0k) (lV.out c0 hc0k)
      have r9 := fun (L : List (Nat × Obj)) (w : World) (hR : Rep W.heap.size W L w) => xCe (hmr.out w (hR.weaken (List.nil_sublist _)) c hck) (lV.out c hck)
      rw [hv0] at r8
      rw [hv1] at r9
      have u0 : v0.all (·.oneCell') = true := by rw [← hv0]; exact List.all_eq_true.2 (oV.out c0 hc0k)
      have u1 : v1.all (·.oneCell') = true := by rw [← hv1]; exact List.all_eq_true.2 (oV.out c hck)
      have m0 : v0.length = 9 := by rw [← hv0]; exact lV.out c0 hc0k
      have m1 : v1.length = 9 := by rw [← hv1]; exact lV.out c hck
      replace hv0 := Held.mk hv0
      replace hv1 := Held.mk hv1
      replace u0 := Held.mk u0
      replace u1 := Held.mk u1
      replace m0 := Held.mk m0
      replace m1 := Held.mk m1
      replace hc0' := Held.mk hc0'
      clear ct
      go_wp2_with (first | go_skip | (refine' xAg hR rfl rfl rfl ?_; clear hR; intro blk w hR) | (refine' xAb hR rfl rfl inferInstance ?_; clear hR; intro blk w hR) | (refine' xAf hR rfl rfl rfl inferInstance ?hm ?hn ?_; (case hm => first | with_reducible assumption | repeat (first | exact .head _ | with_reducible assumption | apply mC)); (case hn => first | rfl | simp)) | (refine' xAe hR rfl rfl rfl inferInstance ?hm ?hv ?hn ?_; (case hm => first | with_reducible assumption | repeat (first | exact .head _ | with_reducible assumption | apply mC)); (case hv => first | with_reducible assumption | (simp only [kC, kD, kE, kF]; try rfl)); (case hn => first | rfl | simp)) | (refine' xAc hR rfl rfl rfl inferInstance ?hm ?hv ?_; (case hm => first | with_reducible assumption | repeat (first | exact .head _ | with_reducible assumption | apply mC)); (case hv => first | rfl | with_reducible assumption)) | (refine' xAd hR rfl rfl rfl inferInstance rfl ?hs ?zone ?zvn ?hn ?_; (case hs => repeat (first | exact xAh.head | apply xAh.tail)); (case zone => first | rfl | with_reducible assumption); (case zvn => first | rfl | simp); (case hn => first | rfl | simp); clear hR; intro w hR) | (refine' xAa hR rfl rfl rfl inferInstance rfl rfl ?hs ?hn ?hl ?_; (case hs => repeat (first | exact xAh.head | apply xAh.tail)); (case hn => first | exact oD rfl | (show _ < 4; with_reducible assumption) | (simp; try omega)); (case hl => first | with_reducible assumption | (simp only [nl, kA, kB]; first | done | rfl) | rfl); clear hR; intro w hR) | (refine' xAu hR rfl rfl rfl inferInstance ?hm ?hn ?_; (case hm => first | with_reducible assumption | repeat (first | exact .head _ | with_reducible assumption | apply mC)); (case hn => first | rfl | simp)) | (refine' xAp hR rfl rfl rfl inferInstance ?hm ?hv ?_; (case hm => first | with_reducible assumption | repeat (first | exact .head _ | with_reducible assumption | apply mC)); (case hv => first | rfl | with_reducible assumption)) | (refine' xBc hR rfl rfl rfl inferInstance ?hm ?hv ?hn ?_; (case hm => first | with_reducible assumption | repeat (first | exact .head _ | with_reducible assumption | apply mC)); (case hv => first | with_reducible assumption | (simp only [kC, kD, kE, kF]; try rfl)); (case hn => first | rfl | simp)) | (go_at_call 15; refine (cn _ _ hR).mono ?_; clear hR cn; rintro e w ⟨gt2, ct2, ut2, Vt2, M2, rfl, htl, hR⟩; replace htl := Held.mk htl; replace hR := hR.permT (List.Perm.cons _ List.perm_append_comm); simp only [List.cons_append, List.nil_append] at hR))
      obtain ⟨b7, hb7⟩ : ∃ x, x = blk := ⟨_, rfl⟩
      subst hb7
      have hk2 : k ≤ ct2 := by have := htl.out.le; omega
      have lc := htl.out.len
      have lc2 := putR_len (vs := v0) lc (show c < ct2 by omega) m0.out
      rename_i K4 k4 h4 K3 k3
      try simp only [Act.put, kA, kB, List.setIfInBounds_toArray]
      refine wp_region_F hR 11 mixed rfl ?_
      clear hR
      refine fHeads [(b2, .cells (rrow n t (.slice (some ⟨bb, off, none⟩) k cap)).toArray 27), (b7, .cells (rrow n t (.slice (some ⟨gt2, 0, none⟩) k ct2)).toArray 27)] [1, 1, 1, 1, 1, 1, 1, 1, 1, 1, 2] 1 rfl (by repeat (first | exact xBw | refine xBq (by repeat (first | exact .head _ | with_reducible assumption | apply mC)) ?_)) (by repeat (first | exact xBw | refine xBq (by repeat (first | exact .head _ | with_reducible assumption | apply mC)) ?_)) rfl (by decide +kernel) (fun K hK => ?_)
      repeat ((first | (refine' hd_loadKP rfl rfl rfl r8 ?ha ?_) | (refine xBo ?_) | (refine' xAz (by decide) rfl (.inl rfl) rfl ?ha ?_) | (refine' xAz (by decide) rfl (.inr rfl) rfl ?ha ?_) | (refine' xAy rfl rfl rfl inferInstance ?hm ?hn ?ha ?_; (case hm => first | with_reducible assumption | repeat (first | exact .head _ | with_reducible assumption | apply mC)); (case hn => first | rfl | simp)) | (refine' xAr rfl rfl rfl inferInstance ?hm ?hv ?hn ?ha ?_; (case hm => first | with_reducible assumption | repeat (first | exact .head _ | with_reducible assumption | apply mC)); (case hv => first | with_reducible assumption | (simp only [kC, kD, kE, kF]; try rfl)); (case hn => first | rfl | simp)) | (refine' xAn rfl rfl rfl inferInstance ?hm ?hv ?ha ?_; (case hm => first | with_reducible assumption | repeat (first | exact .head _ | with_reducible assumption | apply mC)); (case hv => first | rfl | with_reducible assumption)) | (refine' xAs rfl rfl rfl inferInstance ?hm ?hv ?hn ?ha ?_; (case hm => first | with_reducible assumption | repeat (first | exact .head _ | with_reducible assumption | apply mC)); (case hv => first | with_reducible assumption | (simp only [kC, kD, kE, kF]; try rfl)); (case hn => first | rfl | simp)) | (refine' xAl rfl rfl rfl inferInstance ?hm ?hv ?ha ?_; (case hm => first | with_reducible assumption | repeat (first | exact .head _ | with_reducible assumption | apply mC)); (case hv => first | rfl | with_reducible assumption)) | ((first | refine' xAj (by decide) rfl rfl rfl rfl (fun w => ?hq) ?ha ?_ | refine' xBh (by decide) rfl rfl rfl rfl (fun w => ?hq) ?ha ?_ | refine' xAw (by decide) rfl rfl rfl (fun w => ?hq) ?ha ?_ | refine' xAi (by decide) rfl rfl rfl (fun w => ?hq) ?ha ?_ | refine' xAv (by decide) rfl rfl rfl (fun w => ?hq) ?ha ?_ | refine' xBi (by decide) rfl rfl rfl rfl (fun w => ?hq) ?ha ?_ | refine' xBe (by decide) rfl rfl rfl rfl rfl rfl (fun w => ?hq) ?ha ?_ | refine' xBj (by decide) rfl rfl (fun w => ?hq) ?ha ?_ | refine' xAx (by decide) rfl rfl rfl (fun w => ?hq) ?ha ?_ | refine' xBg (by decide) rfl rfl rfl (fun w => ?hq) ?ha ?_); (case hq => go_simp; try rfl)) | (refine' xAm (by decide) rfl rfl rfl ?ha ?_) | (refine' xBp (by decide) rfl rfl rfl rfl ?ha ?_) | (refine' xBn (by decide) rfl ?ha ?_)); try (case ha => simp only [kP, kQ, kA, kB]; try rfl))
      refine xBx (hK _ _ ?_)
      clear hK K
      refine f_at [10] (by decide +kernel) rfl ?_
      refine f_is 10 ?_
      refine f_s rfl rfl (yields_storeR (i := c) (cap := ct2) (l := ut2) (vs := v0) (t := 27) rfl rfl rfl rfl u0.out m0.out lc (by omega) (by repeat (first | exact xAh.head | apply xAh.tail))) (by repeat (first | exact xBw | refine xBq (by repeat (first | exact .head _ | apply mC)) ?_)) ?_ f_nil
      refine f_end (by decide +kernel) (fun w hR => ?_)
      simp only [Exit.then]
      refine k3 _ _ ?_
      go_wp2_with (first | go_skip | (refine' xAg hR rfl rfl rfl ?_; clear hR; intro blk w hR) | (refine' xAb hR rfl rfl inferInstance ?_; clear hR; intro blk w hR) | (refine' xAf hR rfl rfl rfl inferInstance ?hm ?hn ?_; (case hm => first | with_reducible assumption | repeat (first | exact .head _ | with_reducible assumption | apply mC)); (case hn => first | rfl | simp)) | (refine' xAe hR rfl rfl rfl inferInstance ?hm ?hv ?hn ?_; (case hm => first | with_reducible assumption | repeat (first | exact .head _ | with_reducible assumption | apply mC)); (case hv => first | with_reducible assumption | (simp only [kC, kD, kE, kF]; try rfl)); (case hn => first | rfl | simp)) | (refine' xAc hR rfl rfl rfl inferInstance ?hm ?hv ?_; (case hm => first | with_reducible assumption | repeat (first | exact .head _ | with_reducible assumption | apply mC)); (case hv => first | rfl | with_reducible assumption)) | (refine' xAd hR rfl rfl rfl inferInstance rfl ?hs ?zone ?zvn ?hn ?_; (case hs => repeat (first | exact xAh.head | apply xAh.tail)); (case zone => first | rfl | with_reducible assumption); (case zvn => first | rfl | simp); (case hn => first | rfl | simp); clear hR; intro w hR) | (refine' xAa hR rfl rfl rfl inferInstance rfl rfl ?hs ?hn ?hl ?_; (case hs => repeat (first | exact xAh.head | apply xAh.tail)); (case hn => first | exact oD rfl | (show _ < 4; with_reducible assumption) | (simp; try omega)); (case hl => first | with_reducible assumption | (simp only [nl, kA, kB]; first | done | rfl) | rfl); clear hR; intro w hR) | (refine' xAu hR rfl rfl rfl inferInstance ?hm ?hn ?_; (case hm => first | with_reducible assumption | repeat (first | exact .head _ | with_reducible assumption | apply mC)); (case hn => first | rfl | simp)) | (refine' xAp hR rfl rfl rfl inferInstance ?hm ?hv ?_; (case hm => first | with_reducible assumption | repeat (first | exact .head _ | with_reducible assumption | apply mC)); (case hv => first | rfl | with_reducible assumption)) | (refine' xBc hR rfl rfl rfl inferInstance ?hm ?hv ?hn ?_; (case hm => first | with_reducible assumption | repeat (first | exact .head _ | with_reducible assumption | apply mC)); (case hv => first | with_reducible assumption | (simp only [kC, kD, kE, kF]; try rfl)); (case hn => first | rfl | simp)) | fail)
      try simp only [Act.put, kA, kB, List.setIfInBounds_toArray]
      refine wp_region_F hR 11 mixed rfl ?_
      clear hR
      refine fHeads [(b2, .cells (rrow n t (.slice (some ⟨bb, off, none⟩) k cap)).toArray 27), (b7, .cells (rrow n t (.slice (some ⟨gt2, 0, none⟩) k ct2)).toArray 27)] [1, 1, 1, 1, 1, 1, 1, 1, 1, 1, 2] 1 rfl (by repeat (first | exact xBw | refine xBq (by repeat (first | exact .head _ | with_reducible assumption | apply mC)) ?_)) (by repeat (first | exact xBw | refine xBq (by repeat (first | exact .head _ | with_reducible assumption | apply mC)) ?_)) rfl (by decide +kernel) (fun K hK => ?_)
      repeat ((first | (refine' hd_loadKP rfl rfl rfl r9 ?ha ?_) | (refine xBo ?_) | (refine' xAz (by decide) rfl (.inl rfl) rfl ?ha ?_) | (refine' xAz (by decide) rfl (.inr rfl) rfl ?ha ?_) | (refine' xAy rfl rfl rfl inferInstance ?hm ?hn ?ha ?_; (case hm => first | with_reducible assumption | repeat (first | exact .head _ | with_reducible assumption | apply mC)); (case hn => first | rfl | simp)) | (refine' xAr rfl rfl rfl inferInstance ?hm ?hv ?hn ?ha ?_; (case hm => first | with_reducible assumption | repeat (first | exact .head _ | with_reducible assumption | apply mC)); (case hv => first | with_reducible assumption | (simp only [kC, kD, kE, kF]; try rfl)); (case hn => first | rfl | simp)) | (refine' xAn rfl rfl rfl inferInstance ?hm ?hv ?ha ?_; (case hm => first | with_reducible assumption | repeat (first | exact .head _ | with_reducible assumption | apply mC)); (case hv => first | rfl | with_reducible assumption)) | (refine' xAs rfl rfl rfl inferInstance ?hm ?hv ?hn ?ha ?_; (case hm => first | with_reducible assumption | repeat (first | exact .head _ | with_reducible assumption | apply mC)); (case hv => first | with_reducible assumption | (simp only [kC, kD, kE, kF]; try rfl)); (case hn => first | rfl | simp)) | (refine' xAl rfl rfl rfl inferInstance ?hm ?hv ?ha ?_; (case hm => first | with_reducible assumption | repeat (first | exact .head _ | with_reducible assumption | apply mC)); (case hv => first | rfl | with_reducible assumption)) | ((first | refine' xAj (by decide) rfl rfl rfl rfl (fun w => ?hq) ?ha ?_ | refine' xBh (by decide) rfl rfl rfl rfl (fun w => ?hq) ?ha ?_ | refine' xAw (by decide) rfl rfl rfl (fun w => ?hq) ?ha ?_ | refine' xAi (by decide) rfl rfl rfl (fun w => ?hq) ?ha ?_ | refine' xAv (by decide) rfl rfl rfl (fun w => ?hq) ?ha ?_ | refine' xBi (by decide) rfl rfl rfl rfl (fun w => ?hq) ?ha ?_ | refine' xBe (by decide) rfl rfl rfl rfl rfl rfl (fun w => ?hq) ?ha ?_ | refine' xBj (by decide) rfl rfl (fun w => ?hq) ?ha ?_ | refine' xAx (by decide) rfl rfl rfl (fun w => ?hq) ?ha ?_ | refine' xBg (by decide) rfl rfl rfl (fun w => ?hq) ?ha ?_); (case hq => go_simp; try rfl)) | (refine' xAm (by decide) rfl rfl rfl ?ha ?_) | (refine' xBp (by decide) rfl rfl rfl rfl ?ha ?_) | (refine' xBn (by decide) rfl ?ha ?_)); try (case ha => simp only [kP, kQ, kA, kB]; try rfl))
      refine xBx (hK _ _ ?_)
      clear hK K
      refine f_at [10] (by decide +kernel) rfl ?_
      refine f_is 10 ?_
      refine f_s rfl rfl (yields_storeR (i := c0) (cap := ct2) (l := putR ut2 c v0) (vs := v1) (t := 27) rfl rfl rfl rfl u1.out m1.out lc2 (by omega) (by repeat (first | exact xAh.head | apply xAh.tail))) (by repeat (first | exact xBw | refine xBq (by repeat (first | exact .head _ | apply mC)) ?_)) ?_ f_nil
      refine f_end (by decide +kernel) (fun w hR => ?_)
      simp only [Exit.then]
      refine k4 _ _ ?_
      have cB : ∀ L, (∀ q, q ∈ M2 → q ∈ L) → (gt2, Obj.cells (putR (putR ut2 c v0) c0 v1).toArray 27) ∈ L → ∀ w, Rep W.heap.size W L w → Calls Try.prog 14 #[.agg (rrow n t (.slice (some ⟨gt2, 0, none⟩) k ct2)).toArray] w fun e w' => e = .returned (.bool false) ∧ Rep W.heap.size W L w' := fun L hM hgm w hR =>
        check_no (turned_at (V := V) (Vt := Vt2) (M := M2) (cur := ut2) (c := c0) hn ht hk2 htl.out.big lc (by have := hc0'.out; omega) hsub.out htl.out.row hM htl.out.part (by rw [hc0'.out, hv0.out, hv1.out]; exact hgm)) (fun h => turned_no hg.out.1 (by have := hc0'.out; omega) h.1) hR
      have t1 : decide ((c : Int) = 0) = false := decide_eq_false (by omega)
      have t2 : ((c : Int) == 0) = false := by simp; omega
      have t3 : ¬ (c : Int) = 0 := by omega
      generalize putR (putR ut2 c v0) c0 v1 = cz at *
      go_wp2_with (first | go_skip | (refine' xAg hR rfl rfl rfl ?_; clear hR; intro blk w hR) | (refine' xAb hR rfl rfl inferInstance ?_; clear hR; intro blk w hR) | (refine' xAf hR rfl rfl rfl inferInstance ?hm ?hn ?_; (case hm => first | with_reducible assumption | repeat (first | exact .head _ | with_reducible assumption | apply mC)); (case hn => first | rfl | simp)) | (refine' xAe hR rfl rfl rfl inferInstance ?hm ?hv ?hn ?_; (case hm => first | with_reducible assumption | repeat (first | exact .head _ | with_reducible assumption | apply mC)); (case hv => first | with_reducible assumption | (simp only [kC, kD, kE, kF]; try rfl)); (case hn => first | rfl | simp)) | (refine' xAc hR rfl rfl rfl inferInstance ?hm ?hv ?_; (case hm => first | with_reducible assumption | repeat (first | exact .head _ | with_reducible assumption | apply mC)); (case hv => first | rfl | with_reducible assumption)) | (refine' xAd hR rfl rfl rfl inferInstance rfl ?hs ?zone ?zvn ?hn ?_; (case hs => repeat (first | exact xAh.head | apply xAh.tail)); (case zone => first | rfl | with_reducible assumption); (case zvn => first | rfl | simp); (case hn => first | rfl | simp); clear hR; intro w hR) | (refine' xAa hR rfl rfl rfl inferInstance rfl rfl ?hs ?hn ?hl ?_; (case hs => repeat (first | exact xAh.head | apply xAh.tail)); (case hn => first | exact oD rfl | (show _ < 4; with_reducible assumption) | (simp; try omega)); (case hl => first | with_reducible assumption | (simp only [nl, kA, kB]; first | done | rfl) | rfl); clear hR; intro w hR) | (refine' xAu hR rfl rfl rfl inferInstance ?hm ?hn ?_; (case hm => first | with_reducible assumption | repeat (first | exact .head _ | with_reducible assumption | apply mC)); (case hn => first | rfl | simp)) | (refine' xAp hR rfl rfl rfl inferInstance ?hm ?hv ?_; (case hm => first | with_reducible assumption | repeat (first | exact .head _ | with_reducible assumption | apply mC)); (case hv => first | rfl | with_reducible assumption)) | (refine' xBc hR rfl rfl rfl inferInstance ?hm ?hv ?hn ?_; (case hm => first | with_reducible assumption | repeat (first | exact .head _ | with_reducible assumption | apply mC)); (case hv => first | with_reducible assumption | (simp only [kC, kD, kE, kF]; try rfl)); (case hn => first | rfl | simp)) | (refine' wpList_storeWit hR rfl rfl rfl rfl (by repeat (first | exact xAh.head | apply xAh.tail)) ?_; clear hR; intro w hR) | (go_at_call 16; refine (o0 _).mono ?_; rintro e w ⟨rfl, hb⟩; replace hR := hR.call hb; clear hb) | (go_at_call 16; refine (o1 _).mono ?_; rintro e w ⟨rfl, hb⟩; replace hR := hR.call hb; clear hb) | (go_at_call 14; refine (cA _ (by repeat (first | exact .head _ | apply mC)) _ hR).mono ?_; clear hR; rintro e w ⟨rfl, hR⟩) | (go_at_call 14; refine (cB _ (fun q hq => by repeat (first | exact List.mem_append_right _ hq | apply mC)) (by repeat (first | exact .head _ | apply mC)) _ hR).mono ?_; clear hR; rintro e w ⟨rfl, hR⟩) | (go_at_call 14; refine (cW0 _ _ hR).mono ?_; clear hR; rintro e w ⟨rfl, hR⟩) | (go_at_call 14; refine (cW1 _ _ hR).mono ?_; clear hR; rintro e w ⟨rfl, hR⟩) | (go_at_call 14; refine (cWn _ _ hR).mono ?_; clear hR; rintro e w ⟨rfl, hR⟩))
      go_ret
      exact ⟨rfl, hR.below⟩
end Go.Proofs.Ytdagdfcbnhfdkaa
