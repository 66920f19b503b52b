/- The contracts of limbs.Of, limbs.Cmp. -/
import Derived.Test.YtdmdkdodfngjiaaAdd
import Derived.Test.YtdmdkdodfngjiaaSub
set_option linter.unusedSimpArgs false
set_option linter.unusedVariables false
namespace Go.Proofs.Ytdmdkdodfngjiaa
open Go.RowKit

theorem nl_small (n : Nat) (h : n < 18446744073709551616) : nl n = [.int .u64 (n : Int), .int .u64 0, .int .u64 0, .int .u64 0] := by
  have e := nl_ofW n 0 0 0 h (by decide) (by decide) (by decide)
  have e2 : ofW n 0 0 0 = n := by unfold ofW; omega
  rw [e2] at e
  exact e
theorem lt_B {n : Nat} (h : n < 18446744073709551616) : n < B := by rw [B_eq]; omega

/-- How two numbers compare. -/
noncomputable def cmpN : Nat → Nat → Int := opq fun a b => if a = b then 0 else if a < b then -1 else 1
theorem cmpN_def (a b : Nat) : cmpN a b = if a = b then 0 else if a < b then -1 else 1 := by unfold cmpN; rw [opq_eq]
theorem cmpN_le (a b : Nat) : cmpN a b ≤ 0 ↔ a ≤ b := by rw [cmpN_def]; split <;> (try split) <;> omega
theorem cmpN_lt (a b : Nat) : cmpN a b < 0 ↔ a < b := by rw [cmpN_def]; split <;> (try split) <;> omega
theorem cmpN_ge (a b : Nat) : 0 ≤ cmpN a b ↔ b ≤ a := by rw [cmpN_def]; split <;> (try split) <;> omega
theorem cmpN_gt (a b : Nat) : 0 < cmpN a b ↔ b < a := by rw [cmpN_def]; split <;> (try split) <;> omega
theorem cmpN_eq (a b : Nat) : cmpN a b = 0 ↔ a = b := by rw [cmpN_def]; split <;> (try split) <;> omega

theorem of_any (n : Nat) (hn : n < 18446744073709551616) (w : World) : Calls Try.prog 90 #[.int .u64 (n : Int)] w fun e w' =>
    e = .returned (num n) ∧ Below w.heap.size w w' := by
  have hR := Rep.init w
  go_enter Try.func90, Try.ntmps90
  go_wp2_with (first | (refine' wpList_boxRep hR rfl rfl rfl ?_; clear hR; intro blk w hR) | (refine' wpList_allocRep hR rfl rfl inferInstance ?_; clear hR; intro blk w hR) | (refine' wpList_loadAll hR rfl rfl rfl inferInstance ?hm ?hn ?_; (case hm => first | with_reducible assumption | repeat (first | exact .head _ | apply List.Mem.tail)); (case hn => first | rfl | (simp; done))) | (refine' wpList_loadRow hR rfl rfl rfl inferInstance ?hm ?hv ?hn ?_; (case hm => first | with_reducible assumption | repeat (first | exact .head _ | apply List.Mem.tail)); (case hv => first | with_reducible assumption | (simp only [kC, kD, kE, kF]; first | done | rfl)); (case hn => first | rfl | (simp; done))) | (refine' wpList_loadCell hR rfl rfl rfl inferInstance ?hm ?hv ?_; (case hm => first | with_reducible assumption | repeat (first | exact .head _ | apply List.Mem.tail)); (case hv => first | rfl | with_reducible assumption)) | (refine' wpList_storeAll hR rfl rfl rfl inferInstance rfl ?hs ?zone ?zvn ?hn ?_; (case hs => repeat (first | exact SetAt.head | apply SetAt.tail)); (case zone => first | rfl | with_reducible assumption); (case zvn => first | rfl | (simp; done)); (case hn => first | rfl | (simp; done)); clear hR; intro w hR) | (refine' wpList_storeCell hR rfl rfl rfl inferInstance rfl rfl ?hs ?hn ?hl ?_; (case hs => repeat (first | exact SetAt.head | apply SetAt.tail)); (case hn => first | exact of_decide_eq_true rfl | (show _ < 4; with_reducible assumption) | (simp; first | done | omega)); (case hl => first | with_reducible assumption | (simp only [nl, kA, kB]; first | done | rfl) | rfl); clear hR; intro w hR) | fail)
  (refine' bodyPost_ret (results_c Try.results90 rfl (hR.loadAll (P := Try.prog) (ty := 24) ?hm ?hn)) rfl ⟨?_, hR.below⟩; (case hm => first | with_reducible assumption | repeat (first | exact .head _ | apply List.Mem.tail)); (case hn => first | rfl | (simp; done)))
  show Ending.returned (.agg (List.toArray _)) = _
  unfold num
  rw [nl_small n hn]

theorem cmp_c1 {a b : Nat} (ha : a < B) (hb : b < B) (h : eqN a b = true) : (0 : Int) = cmpN a b := by
  rw [eqN_def, Nat.mod_eq_of_lt ha, Nat.mod_eq_of_lt hb, decide_eq_true_iff] at h
  rw [cmpN_def, if_pos h]
theorem cmp_c2 {a b : Nat} (ha : a < B) (hb : b < B) (h : eqN a b = false) (k : (bor a b == 1) = true) : (-1 : Int) = cmpN a b := by
  rw [eqN_def, Nat.mod_eq_of_lt ha, Nat.mod_eq_of_lt hb, decide_eq_false_iff_not] at h
  rw [cmpN_def, if_neg h]
  rw [bor_def] at k
  by_cases q : (a : Int) < b
  · rw [if_pos (by omega)]
  · rw [if_neg q] at k; cases k
theorem cmp_c3 {a b : Nat} (ha : a < B) (hb : b < B) (h : eqN a b = false) (k : (bor a b == 1) = false) : (1 : Int) = cmpN a b := by
  rw [eqN_def, Nat.mod_eq_of_lt ha, Nat.mod_eq_of_lt hb, decide_eq_false_iff_not] at h
  rw [cmpN_def, if_neg h]
  rw [bor_def] at k
  by_cases q : (a : Int) < b
  · rw [if_pos q] at k; cases k
  · rw [if_neg (by omega)]

set_option maxRecDepth 100000 in
set_option maxHeartbeats 1000000 in
theorem cmp_any (a b : Nat) (ha : a < B) (hb : b < B) (w : World) : Calls Try.prog 56 #[num a, num b] w fun e w' =>
    e = .returned (.int .i64 (cmpN a b)) ∧ Below w.heap.size w w' := by
  have hR := Rep.init w
  go_enter Try.func56, Try.ntmps56
  go_wp2_with (first | (refine' wpList_boxRep hR rfl rfl rfl ?_; clear hR; intro blk w hR) | (refine' wpList_allocRep hR rfl rfl inferInstance ?_; clear hR; intro blk w hR) | (refine' wpList_loadAll hR rfl rfl rfl inferInstance ?hm ?hn ?_; (case hm => first | with_reducible assumption | repeat (first | exact .head _ | apply List.Mem.tail)); (case hn => first | rfl | (simp; done))) | (refine' wpList_loadRow hR rfl rfl rfl inferInstance ?hm ?hv ?hn ?_; (case hm => first | with_reducible assumption | repeat (first | exact .head _ | apply List.Mem.tail)); (case hv => first | with_reducible assumption | (simp only [kC, kD, kE, kF]; first | done | rfl)); (case hn => first | rfl | (simp; done))) | (refine' wpList_loadCell hR rfl rfl rfl inferInstance ?hm ?hv ?_; (case hm => first | with_reducible assumption | repeat (first | exact .head _ | apply List.Mem.tail)); (case hv => first | rfl | with_reducible assumption)) | (refine' wpList_storeAll hR rfl rfl rfl inferInstance rfl ?hs ?zone ?zvn ?hn ?_; (case hs => repeat (first | exact SetAt.head | apply SetAt.tail)); (case zone => first | rfl | with_reducible assumption); (case zvn => first | rfl | (simp; done)); (case hn => first | rfl | (simp; done)); clear hR; intro w hR) | (refine' wpList_storeCell hR rfl rfl rfl inferInstance rfl rfl ?hs ?hn ?hl ?_; (case hs => repeat (first | exact SetAt.head | apply SetAt.tail)); (case hn => first | exact of_decide_eq_true rfl | (show _ < 4; with_reducible assumption) | (simp; first | done | omega)); (case hl => first | with_reducible assumption | (simp only [nl, kA, kB]; first | done | rfl) | rfl); clear hR; intro w hR) | (go_at_call 71; refine (sub_any a b ha hb _).mono ?_; rintro e w ⟨rfl, hb⟩; replace hR := hR.call hb; clear hb))
  all_goals go_ret
  · exact ⟨congrArg (fun x => Ending.returned (.int .i64 x)) (cmp_c1 ha hb (by assumption)), hR.below⟩
  · exact ⟨congrArg (fun x => Ending.returned (.int .i64 x)) (cmp_c2 ha hb (by assumption) (by assumption)), hR.below⟩
  · exact ⟨congrArg (fun x => Ending.returned (.int .i64 x)) (cmp_c3 ha hb (by assumption) (by assumption)), hR.below⟩
end Go.Proofs.Ytdmdkdodfngjiaa
