/- The contract of divides.Common. -/
import Derived.Test.YtdmdkdodfngjiaaDiv
set_option linter.unusedSimpArgs false
set_option linter.unusedVariables false
namespace Go.Proofs.Ytdmdkdodfngjiaa
open Go.RowKit

theorem Rep.tail {B0 : Nat} {w0 : World} {p : Nat × Obj} {L : List (Nat × Obj)} {w : World} (h : Rep B0 w0 (p :: L) w) : Rep B0 w0 L w :=
  ⟨h.below, h.le, fun q hq => h.own q (.tail _ hq), (List.nodup_cons.1 h.uniq).2⟩

noncomputable def gcdN : Nat → Nat → Nat := opq fun a b => Nat.gcd a b
theorem gcdN_def (a b : Nat) : gcdN a b = Nat.gcd a b := by unfold gcdN; rw [opq_eq]
theorem gcd_lt_B {a b : Nat} (ha : a < B) (hb : b < B) : Nat.gcd a b < B := by
  by_cases h : b = 0
  · subst h; rw [Nat.gcd_zero_right]; exact ha
  · exact Nat.lt_of_le_of_lt (Nat.gcd_le_right _ (by omega)) hb

/-- Euclid's numbers, told from the end. -/
theorem euclid : ∀ b a : Nat, a < B → b < B → ∃ (N : Nat) (X Y : Nat → Nat), X N = a ∧ Y N = b ∧ Y 0 = 0 ∧ X 0 = gcdN a b ∧ (∀ j, j ≤ N → X j < B ∧ Y j < B) ∧
    ∀ j, j < N → Y (j + 1) ≠ 0 ∧ X j = Y (j + 1) ∧ Y j = rem0 (X (j + 1)) (Y (j + 1)) := by
  intro b
  induction b using Nat.strongRecOn with
  | ind b ih =>
    intro a ha hb
    by_cases h : b = 0
    · subst h
      refine ⟨0, fun _ => a, fun _ => 0, rfl, rfl, rfl, ?_, fun _ _ => ⟨ha, hb⟩, fun j hj => absurd hj (by omega)⟩
      rw [gcdN_def, Nat.gcd_zero_right]
    · have hm : a % b < b := Nat.mod_lt _ (by omega)
      obtain ⟨N, X, Y, h1, h2, h3, h4, h5, h6⟩ := ih (a % b) hm b hb (by omega)
      refine ⟨N + 1, fun j => if j = N + 1 then a else X j, fun j => if j = N + 1 then b else Y j, if_pos rfl, if_pos rfl, ?_, ?_, ?_, ?_⟩
      · show (if 0 = N + 1 then b else Y 0) = 0
        rw [if_neg (by omega)]; exact h3
      · show (if 0 = N + 1 then a else X 0) = _
        rw [if_neg (by omega), h4, gcdN_def, gcdN_def, Nat.gcd_comm a b, Nat.gcd_rec b a, Nat.gcd_comm]
      · intro j hj
        show (if j = N + 1 then a else X j) < B ∧ (if j = N + 1 then b else Y j) < B
        by_cases e : j = N + 1
        · rw [if_pos e, if_pos e]; exact ⟨ha, hb⟩
        · rw [if_neg e, if_neg e]; exact h5 j (by omega)
      · intro j hj
        show (if j + 1 = N + 1 then b else Y (j + 1)) ≠ 0 ∧ (if j = N + 1 then a else X j) = (if j + 1 = N + 1 then b else Y (j + 1)) ∧ (if j = N + 1 then b else Y j) = rem0 (if j + 1 = N + 1 then a else X (j + 1)) (if j + 1 = N + 1 then b else Y (j + 1))
        rw [if_neg (show ¬ j = N + 1 by omega), if_neg (show ¬ j = N + 1 by omega)]
        by_cases e : j = N
        · subst e
          rw [if_pos rfl, if_pos rfl, h1, h2, rem0_pos h]
          exact ⟨h, rfl, rfl⟩
        · rw [if_neg (by omega), if_neg (by omega)]
          exact h6 j (by omega)

set_option maxRecDepth 100000 in
set_option maxHeartbeats 4000000 in
theorem common_any (a b : Nat) (ha : a < B) (hb : b < B) (w : World) : Calls Try.prog 21 #[num a, num b] w fun e w' =>
    e = .returned (num (gcdN a b)) ∧ Below w.heap.size w w' := by
  obtain ⟨n, X, Y, hX, hY, hY0, hg, hlt, hst⟩ := euclid b a ha hb
  rw [← hg, ← hX, ← hY]
  clear hg hX hY
  have hR := Rep.init w
  go_enter Try.func21, Try.ntmps21
  go_wp2_with (first | (refine' wpList_boxRep hR rfl rfl rfl ?_; clear hR; intro blk w hR) | (refine' wpList_allocRep hR rfl rfl inferInstance ?_; clear hR; intro blk w hR) | (refine' wpList_loadAll hR rfl rfl rfl inferInstance ?hm ?hn ?_; (case hm => first | with_reducible assumption | repeat (first | exact .head _ | apply List.Mem.tail)); (case hn => first | rfl | (simp; done))) | (refine' wpList_loadRow hR rfl rfl rfl inferInstance ?hm ?hv ?hn ?_; (case hm => first | with_reducible assumption | repeat (first | exact .head _ | apply List.Mem.tail)); (case hv => first | with_reducible assumption | (simp only [kC, kD, kE, kF]; first | done | rfl)); (case hn => first | rfl | (simp; done))) | (refine' wpList_loadCell hR rfl rfl rfl inferInstance ?hm ?hv ?_; (case hm => first | with_reducible assumption | repeat (first | exact .head _ | apply List.Mem.tail)); (case hv => first | rfl | with_reducible assumption)) | (refine' wpList_storeAll hR rfl rfl rfl inferInstance rfl ?hs ?zone ?zvn ?hn ?_; (case hs => repeat (first | exact SetAt.head | apply SetAt.tail)); (case zone => first | rfl | with_reducible assumption); (case zvn => first | rfl | (simp; done)); (case hn => first | rfl | (simp; done)); clear hR; intro w hR) | (refine' wpList_storeCell hR rfl rfl rfl inferInstance rfl rfl ?hs ?hn ?hl ?_; (case hs => repeat (first | exact SetAt.head | apply SetAt.tail)); (case hn => first | exact of_decide_eq_true rfl | (show _ < 4; with_reducible assumption) | (simp; first | done | omega)); (case hl => first | with_reducible assumption | (simp only [nl, kA, kB]; first | done | rfl) | rfl); clear hR; intro w hR) | fail)
  go_step3
  go_wp2_with (first | (refine' wpList_boxRep hR rfl rfl rfl ?_; clear hR; intro blk w hR) | (refine' wpList_allocRep hR rfl rfl inferInstance ?_; clear hR; intro blk w hR) | (refine' wpList_loadAll hR rfl rfl rfl inferInstance ?hm ?hn ?_; (case hm => first | with_reducible assumption | repeat (first | exact .head _ | apply List.Mem.tail)); (case hn => first | rfl | (simp; done))) | (refine' wpList_loadRow hR rfl rfl rfl inferInstance ?hm ?hv ?hn ?_; (case hm => first | with_reducible assumption | repeat (first | exact .head _ | apply List.Mem.tail)); (case hv => first | with_reducible assumption | (simp only [kC, kD, kE, kF]; first | done | rfl)); (case hn => first | rfl | (simp; done))) | (refine' wpList_loadCell hR rfl rfl rfl inferInstance ?hm ?hv ?_; (case hm => first | with_reducible assumption | repeat (first | exact .head _ | apply List.Mem.tail)); (case hv => first | rfl | with_reducible assumption)) | (refine' wpList_storeAll hR rfl rfl rfl inferInstance rfl ?hs ?zone ?zvn ?hn ?_; (case hs => repeat (first | exact SetAt.head | apply SetAt.tail)); (case zone => first | rfl | with_reducible assumption); (case zvn => first | rfl | (simp; done)); (case hn => first | rfl | (simp; done)); clear hR; intro w hR) | (refine' wpList_storeCell hR rfl rfl rfl inferInstance rfl rfl ?hs ?hn ?hl ?_; (case hs => repeat (first | exact SetAt.head | apply SetAt.tail)); (case hn => first | exact of_decide_eq_true rfl | (show _ < 4; with_reducible assumption) | (simp; first | done | omega)); (case hl => first | with_reducible assumption | (simp only [nl, kA, kB]; first | done | rfl) | rfl); clear hR; intro w hR) | fail)
  go_step3
  go_wp2_with (first | (refine' wpList_boxRep hR rfl rfl rfl ?_; clear hR; intro blk w hR) | (refine' wpList_allocRep hR rfl rfl inferInstance ?_; clear hR; intro blk w hR) | (refine' wpList_loadAll hR rfl rfl rfl inferInstance ?hm ?hn ?_; (case hm => first | with_reducible assumption | repeat (first | exact .head _ | apply List.Mem.tail)); (case hn => first | rfl | (simp; done))) | (refine' wpList_loadRow hR rfl rfl rfl inferInstance ?hm ?hv ?hn ?_; (case hm => first | with_reducible assumption | repeat (first | exact .head _ | apply List.Mem.tail)); (case hv => first | with_reducible assumption | (simp only [kC, kD, kE, kF]; first | done | rfl)); (case hn => first | rfl | (simp; done))) | (refine' wpList_loadCell hR rfl rfl rfl inferInstance ?hm ?hv ?_; (case hm => first | with_reducible assumption | repeat (first | exact .head _ | apply List.Mem.tail)); (case hv => first | rfl | with_reducible assumption)) | (refine' wpList_storeAll hR rfl rfl rfl inferInstance rfl ?hs ?zone ?zvn ?hn ?_; (case hs => repeat (first | exact SetAt.head | apply SetAt.tail)); (case zone => first | rfl | with_reducible assumption); (case zvn => first | rfl | (simp; done)); (case hn => first | rfl | (simp; done)); clear hR; intro w hR) | (refine' wpList_storeCell hR rfl rfl rfl inferInstance rfl rfl ?hs ?hn ?hl ?_; (case hs => repeat (first | exact SetAt.head | apply SetAt.tail)); (case hn => first | exact of_decide_eq_true rfl | (show _ < 4; with_reducible assumption) | (simp; first | done | omega)); (case hl => first | with_reducible assumption | (simp only [nl, kA, kB]; first | done | rfl) | rfl); clear hR; intro w hR) | fail)
  rename_i b1 _ b2 _ K0 k0
  refine' loop_rep (false :: false :: false :: false :: false :: true :: true :: true :: true :: true :: true :: true :: true :: true :: true :: true :: true :: true :: true :: true :: false :: []) (fun j l => l) (fun j => [(blk, .cells [.int .u64 0, .int .u64 0, .int .u64 0, .int .u64 0].toArray 24), (b2, .cells (nl (Y j)).toArray 24), (b1, .cells (nl (X j)).toArray 24)]) n ?h0 ?hR ?hs ?he
  case hR =>
    exact hR
  case h0 =>
    exact agree_of rfl rfl rfl
  case hs =>
    clear hR k0
    intro j tm w hj ht hR K hK
    repeat (first | (obtain ⟨x, tm', e, ht'⟩ := agree_true ht; clear ht; subst e; have ht := ht'; clear ht') | (obtain ⟨tm', e, ht'⟩ := agree_false ht; clear ht; subst e; have ht := ht'; clear ht'))
    obtain rfl := agree_nil ht
    clear ht
    obtain ⟨y0, e1, e2⟩ := hst j hj
    obtain ⟨l1, l2⟩ := hlt (j + 1) (by omega)
    have z := eqN_no l2 B_pos y0
    have cd := fun w => div_any _ _ l1 l2 w
    rw [← e2] at cd
    rw [e1] at hK
    clear hst hlt e2 e1
    generalize X (j + 1) = U at *
    generalize Y (j + 1) = V at *
    go_wp2_with (first | (refine' wpList_boxRep hR rfl rfl rfl ?_; clear hR; intro blk w hR) | (refine' wpList_allocRep hR rfl rfl inferInstance ?_; clear hR; intro blk w hR) | (refine' wpList_loadAll hR rfl rfl rfl inferInstance ?hm ?hn ?_; (case hm => first | with_reducible assumption | repeat (first | exact .head _ | apply List.Mem.tail)); (case hn => first | rfl | (simp; done))) | (refine' wpList_loadRow hR rfl rfl rfl inferInstance ?hm ?hv ?hn ?_; (case hm => first | with_reducible assumption | repeat (first | exact .head _ | apply List.Mem.tail)); (case hv => first | with_reducible assumption | (simp only [kC, kD, kE, kF]; first | done | rfl)); (case hn => first | rfl | (simp; done))) | (refine' wpList_loadCell hR rfl rfl rfl inferInstance ?hm ?hv ?_; (case hm => first | with_reducible assumption | repeat (first | exact .head _ | apply List.Mem.tail)); (case hv => first | rfl | with_reducible assumption)) | (refine' wpList_storeAll hR rfl rfl rfl inferInstance rfl ?hs ?zone ?zvn ?hn ?_; (case hs => repeat (first | exact SetAt.head | apply SetAt.tail)); (case zone => first | rfl | with_reducible assumption); (case zvn => first | rfl | (simp; done)); (case hn => first | rfl | (simp; done)); clear hR; intro w hR) | (refine' wpList_storeCell hR rfl rfl rfl inferInstance rfl rfl ?hs ?hn ?hl ?_; (case hs => repeat (first | exact SetAt.head | apply SetAt.tail)); (case hn => first | exact of_decide_eq_true rfl | (show _ < 4; with_reducible assumption) | (simp; first | done | omega)); (case hl => first | with_reducible assumption | (simp only [nl, kA, kB]; first | done | rfl) | rfl); clear hR; intro w hR) | (go_at_call 17; refine (cd _).mono ?_; rintro e w ⟨rfl, hb⟩; replace hR := hR.call hb; clear hb))
    refine wp_region_ord hR [0, 1, 2, 2] [0] mixed (by kernel_rfl) rfl rfl (fun K hK => ?_)
    clear hR
    repeat ((first | (refine hd_tail ?_) | (refine' hd_move (by decide) rfl (.inl rfl) rfl ?ha ?_) | (refine' hd_move (by decide) rfl (.inr rfl) rfl ?ha ?_) | (refine' hd_loadAll rfl rfl rfl inferInstance ?hm ?hn ?ha ?_; (case hm => first | with_reducible assumption | repeat (first | exact .head _ | apply List.Mem.tail)); (case hn => first | rfl | (simp; done))) | (refine' hd_loadRow rfl rfl rfl inferInstance ?hm ?hv ?hn ?ha ?_; (case hm => first | with_reducible assumption | repeat (first | exact .head _ | apply List.Mem.tail)); (case hv => first | with_reducible assumption | (simp only [kC, kD, kE, kF]; first | done | rfl)); (case hn => first | rfl | (simp; done))) | (refine' hd_loadCell rfl rfl rfl inferInstance ?hm ?hv ?ha ?_; (case hm => first | with_reducible assumption | repeat (first | exact .head _ | apply List.Mem.tail)); (case hv => first | rfl | with_reducible assumption)) | (refine' hd_keepRow rfl rfl rfl inferInstance ?hm ?hv ?hn ?ha ?_; (case hm => first | with_reducible assumption | repeat (first | exact .head _ | apply List.Mem.tail)); (case hv => first | with_reducible assumption | (simp only [kC, kD, kE, kF]; first | done | rfl)); (case hn => first | rfl | (simp; done))) | (refine' hd_keepCell rfl rfl rfl inferInstance ?hm ?hv ?ha ?_; (case hm => first | with_reducible assumption | repeat (first | exact .head _ | apply List.Mem.tail)); (case hv => first | rfl | with_reducible assumption)) | ((first | refine' hd_indexAddr (by decide) rfl rfl rfl rfl (fun w => ?hq) ?ha ?_ | refine' hd_binOp (by decide) rfl rfl rfl rfl (fun w => ?hq) ?ha ?_ | refine' hd_extract (by decide) rfl rfl rfl (fun w => ?hq) ?ha ?_ | refine' hd_fieldAddr (by decide) rfl rfl rfl (fun w => ?hq) ?ha ?_ | refine' hd_convert (by decide) rfl rfl rfl (fun w => ?hq) ?ha ?_ | refine' hd_index (by decide) rfl rfl rfl rfl (fun w => ?hq) ?ha ?_ | refine' hd_slice (by decide) rfl rfl rfl rfl rfl rfl (fun w => ?hq) ?ha ?_ | refine' hd_build (by decide) rfl rfl (fun w => ?hq) ?ha ?_ | refine' hd_arrayAt (by decide) rfl rfl rfl (fun w => ?hq) ?ha ?_ | refine' hd_field (by decide) rfl rfl rfl (fun w => ?hq) ?ha ?_); (case hq => go_simp; first | done | rfl)) | (refine' hd_nilCheck (by decide) rfl rfl rfl ?ha ?_) | (refine' hd_pick (by decide) rfl rfl rfl rfl ?ha ?_) | (refine' hd_skip (by decide) rfl ?ha ?_) | fail); try (case ha => simp only [kP, kQ, kA, kB]; try rfl))
    refine hd_nil (hK _ _ ?_)
    clear hK K
    refine tl_gen (fun Q hQ => ?_)
    try simp only [List.nil_append, List.cons_append]
    repeat ((first | refine' tl_move rfl (.inl rfl) rfl ?hk ?ha ?_ | refine' tl_move rfl (.inr rfl) rfl ?hk ?ha ?_ | (refine' tl_storeAll rfl rfl rfl inferInstance rfl ?hs rfl rfl ?hn ?hk ?ha ?_; (case hs => repeat (first | exact SetAt.head | apply SetAt.tail)); (case hn => first | rfl | (simp; done))) | (refine' tl_storeCell rfl rfl rfl inferInstance rfl rfl ?hs ?hn ?hl ?hk ?ha ?_; (case hs => repeat (first | exact SetAt.head | apply SetAt.tail)); (case hn => first | exact of_decide_eq_true rfl | (show _ < 4; with_reducible assumption) | (simp; first | done | omega)); (case hl => first | with_reducible assumption | (simp only [nl, kA, kB]; first | done | rfl) | rfl)) | (refine' tl_storeRow rfl rfl rfl inferInstance rfl rfl ?hvn ?hs ?hn ?hl ?hk ?ha ?_; (case hvn => first | rfl | (simp; done)); (case hs => repeat (first | exact SetAt.head | apply SetAt.tail)); (case hn => first | exact of_decide_eq_true rfl | (show _ < 4; with_reducible assumption) | (simp; first | done | omega)); (case hl => first | with_reducible assumption | (simp only [nl, kA, kB]; first | done | rfl) | rfl)) | (refine' tl_pure rfl (fun w => ?hq) ?hk ?ha ?_; (case hq => go_simp; first | done | rfl))); (case hk => intro p hp; first | exact absurd hp List.not_mem_nil | (obtain rfl := List.mem_singleton.1 hp; repeat (first | exact List.Mem.head _ | apply List.Mem.tail))); (case ha => simp only [kP, kQ, kA, kB]; try rfl))
    refine tl_nil (fun w hR => hQ _ _ ?_)
    clear hQ Q
    go_wp2_with (first | (refine' wpList_boxRep hR rfl rfl rfl ?_; clear hR; intro blk w hR) | (refine' wpList_allocRep hR rfl rfl inferInstance ?_; clear hR; intro blk w hR) | (refine' wpList_loadAll hR rfl rfl rfl inferInstance ?hm ?hn ?_; (case hm => first | with_reducible assumption | repeat (first | exact .head _ | apply List.Mem.tail)); (case hn => first | rfl | (simp; done))) | (refine' wpList_loadRow hR rfl rfl rfl inferInstance ?hm ?hv ?hn ?_; (case hm => first | with_reducible assumption | repeat (first | exact .head _ | apply List.Mem.tail)); (case hv => first | with_reducible assumption | (simp only [kC, kD, kE, kF]; first | done | rfl)); (case hn => first | rfl | (simp; done))) | (refine' wpList_loadCell hR rfl rfl rfl inferInstance ?hm ?hv ?_; (case hm => first | with_reducible assumption | repeat (first | exact .head _ | apply List.Mem.tail)); (case hv => first | rfl | with_reducible assumption)) | (refine' wpList_storeAll hR rfl rfl rfl inferInstance rfl ?hs ?zone ?zvn ?hn ?_; (case hs => repeat (first | exact SetAt.head | apply SetAt.tail)); (case zone => first | rfl | with_reducible assumption); (case zvn => first | rfl | (simp; done)); (case hn => first | rfl | (simp; done)); clear hR; intro w hR) | (refine' wpList_storeCell hR rfl rfl rfl inferInstance rfl rfl ?hs ?hn ?hl ?_; (case hs => repeat (first | exact SetAt.head | apply SetAt.tail)); (case hn => first | exact of_decide_eq_true rfl | (show _ < 4; with_reducible assumption) | (simp; first | done | omega)); (case hl => first | with_reducible assumption | (simp only [nl, kA, kB]; first | done | rfl) | rfl); clear hR; intro w hR) | fail)
    exact hK.out _ _ (agree_of rfl rfl rfl) hR.tail.tail
  case he =>
    clear hR hst hlt
    intro tm w ht hR K
    repeat (first | (obtain ⟨x, tm', e, ht'⟩ := agree_true ht; clear ht; subst e; have ht := ht'; clear ht') | (obtain ⟨tm', e, ht'⟩ := agree_false ht; clear ht; subst e; have ht := ht'; clear ht'))
    obtain rfl := agree_nil ht
    clear ht
    rw [hY0] at hR
    have z := eqN_self 0
    go_wp2_with (first | (refine' wpList_boxRep hR rfl rfl rfl ?_; clear hR; intro blk w hR) | (refine' wpList_allocRep hR rfl rfl inferInstance ?_; clear hR; intro blk w hR) | (refine' wpList_loadAll hR rfl rfl rfl inferInstance ?hm ?hn ?_; (case hm => first | with_reducible assumption | repeat (first | exact .head _ | apply List.Mem.tail)); (case hn => first | rfl | (simp; done))) | (refine' wpList_loadRow hR rfl rfl rfl inferInstance ?hm ?hv ?hn ?_; (case hm => first | with_reducible assumption | repeat (first | exact .head _ | apply List.Mem.tail)); (case hv => first | with_reducible assumption | (simp only [kC, kD, kE, kF]; first | done | rfl)); (case hn => first | rfl | (simp; done))) | (refine' wpList_loadCell hR rfl rfl rfl inferInstance ?hm ?hv ?_; (case hm => first | with_reducible assumption | repeat (first | exact .head _ | apply List.Mem.tail)); (case hv => first | rfl | with_reducible assumption)) | (refine' wpList_storeAll hR rfl rfl rfl inferInstance rfl ?hs ?zone ?zvn ?hn ?_; (case hs => repeat (first | exact SetAt.head | apply SetAt.tail)); (case zone => first | rfl | with_reducible assumption); (case zvn => first | rfl | (simp; done)); (case hn => first | rfl | (simp; done)); clear hR; intro w hR) | (refine' wpList_storeCell hR rfl rfl rfl inferInstance rfl rfl ?hs ?hn ?hl ?_; (case hs => repeat (first | exact SetAt.head | apply SetAt.tail)); (case hn => first | exact of_decide_eq_true rfl | (show _ < 4; with_reducible assumption) | (simp; first | done | omega)); (case hl => first | with_reducible assumption | (simp only [nl, kA, kB]; first | done | rfl) | rfl); clear hR; intro w hR) | fail)
    try rw [Exit.noGoto_ret]
    (refine' bodyPost_ret (results_c Try.results21 rfl (hR.loadAll (P := Try.prog) (ty := 24) ?hm ?hn)) rfl ⟨?_, hR.below⟩; (case hm => first | with_reducible assumption | repeat (first | exact .head _ | apply List.Mem.tail)); (case hn => first | rfl | (simp; done)))
    rfl
end Go.Proofs.Ytdmdkdodfngjiaa
