/- Reasons as values; the contract of primes.Check at small numbers without parts. -/
import Derived.Test.YtdmdkdodfngjiaaSmall
set_option linter.unusedSimpArgs false
set_option linter.unusedVariables false
namespace Go.Proofs.Ytdmdkdodfngjiaa
open Go.RowKit
attribute [local irreducible] Calls

/-- A reason without parts. -/
noncomputable def rl (n t : Nat) : List Value := [.int .u64 (wd n 0), .int .u64 (wd n 1), .int .u64 (wd n 2), .int .u64 (wd n 3), .int .u64 (wd t 0), .int .u64 (wd t 1), .int .u64 (wd t 2), .int .u64 (wd t 3), .slice none 0 0]
noncomputable abbrev rsn (n t : Nat) : Value := .agg (rl n t).toArray
instance rowReason : RowT Try.prog 59 9 := .mk' (by kernel_rfl) (by kernel_rfl)
instance cellHolds : CellT Try.prog 68 := .mk' (by kernel_rfl) (by kernel_rfl)
instance cellParts : CellT Try.prog 57 := .mk' (by kernel_rfl) (by kernel_rfl)
theorem wd_nought (i : Nat) : wd 0 i = 0 := by rw [wd_def]; simp
theorem rl_n (n t : Nat) : ((rl n t).drop 0).take 4 = nl n := rfl
theorem rl_t (n t : Nat) : ((rl n t).drop 4).take 4 = nl t := rfl
theorem rl_at (n t : Nat) : (rl n t)[8]? = some (.slice none 0 0) := rfl
theorem rl_w (n t : Nat) : (rl n t)[0]? = some (.int .u64 (wd n 0)) := rfl
theorem build_r1 (n : Nat) (w : World) : (Instr.build 59 #[(0, .agg (nl n).toArray)]).run Try.prog w = .ok (rsn n 0) w := by
  unfold rsn rl
  simp only [wd_nought]
  unfold nl
  kernel_rfl
theorem build_r2 (n t : Nat) (w : World) : (Instr.build 59 #[(0, .agg (nl n).toArray), (1, .agg (nl t).toArray)]).run Try.prog w = .ok (rsn n t) w := by
  unfold rsn rl nl
  kernel_rfl

theorem SetAt.new {b : Nat} {o o' : Obj} : ∀ {L L' : List (Nat × Obj)}, SetAt L b o o' L' → (b, o') ∈ L'
  | [], _, h => h.elim
  | q :: L, L', h => by
    rcases h with ⟨rfl, rfl⟩ | ⟨L'', h, rfl⟩
    · exact .head _
    · exact .tail _ h.new
section
variable {B0 : Nat} {w0 w : World} {L L' : List (Nat × Obj)}
set_option maxRecDepth 100000 in
set_option maxHeartbeats 1000000 in
theorem holds_small {bm bh : Nat} {n t : Nat} {b : Bool} {tm : TypeId} (hs : SetAt L bm (.cells (List.toArray [.int .i64 0]) tm) (.cells (List.toArray [.int .i64 1]) tm) L') (hn : n < 4294967296) (ht : t < B) (hb : (smallB n && decide (t = 0)) = b) (hR : Rep B0 w0 L w) :
    Calls Try.prog 116 #[rsn n t, .pointer (some ⟨bm, 0, none⟩), .pointer (some ⟨bh, 0, none⟩)] w fun e w' => e = .returned (.bool b) ∧ Rep B0 w0 L' w' := by
  have hB : n < B := lt_B (by omega)
  have cb := fun w => bits_any n hB w
  have hl : (blen n : Int) ≤ 32 := by
    have := (blen_le_iff n 32).mpr (by omega)
    omega
  have en : wd n 0 = (n : Int) := by rw [wd_eq]; unfold w64; omega
  obtain ⟨n0, hn0⟩ : ∃ n, n = 0 := ⟨_, rfl⟩
  have o0 : ∀ w, Calls Try.prog 90 #[.int .u64 0] w fun e w' => e = .returned (num n0) ∧ Below w.heap.size w w' := fun w => by
    rw [hn0]; exact of_any 0 (by decide) w
  have L0 : n0 < B := lt_B (by omega)
  have hm := hs.spec.1
  have hm2 := hs.new
  have tn := rl_n n t
  have tt := rl_t n t
  have ta := rl_at n t
  have tw := rl_w n t
  have c1 := fun w => small_lit n _ (by omega) rfl w
  rw [← en] at c1
  have hcase : (smallB n = false ∧ b = false) ∨ (smallB n = true ∧ eqN t n0 = true ∧ b = true) ∨ (smallB n = true ∧ eqN t n0 = false ∧ b = false) := by
    cases h : smallB n
    · left; rw [h] at hb; simp at hb; exact ⟨rfl, hb⟩
    · right
      rw [h] at hb
      by_cases h0 : t = 0
      · left; refine ⟨rfl, eqN_yes (by omega), ?_⟩; rw [← hb, h0]; rfl
      · right; refine ⟨rfl, eqN_no ht L0 (by omega), ?_⟩; rw [← hb]; simp [h0]
  generalize smallB n = s at *
  generalize (blen n : Int) = bl at *
  clear en hn ht hB hb hn0 L0
  rcases hcase with ⟨rfl, rfl⟩ | ⟨rfl, i2, rfl⟩ | ⟨rfl, i2, rfl⟩
  all_goals
    go_enter Try.func116, Try.ntmps116
    go_wp2_with (first | (refine' wpList_boxRep hR rfl rfl rfl ?_; clear hR; intro blk w hR) | (refine' wpList_allocRep hR rfl rfl inferInstance ?_; clear hR; intro blk w hR) | (refine' wpList_loadAll hR rfl rfl rfl inferInstance ?hm ?hn ?_; (case hm => first | with_reducible assumption | repeat (first | exact .head _ | with_reducible assumption | apply List.mem_cons_of_mem)); (case hn => first | rfl | (simp; done))) | (refine' wpList_loadRow hR rfl rfl rfl inferInstance ?hm ?hv ?hn ?_; (case hm => first | with_reducible assumption | repeat (first | exact .head _ | with_reducible assumption | apply List.mem_cons_of_mem)); (case hv => first | with_reducible assumption | (simp only [kC, kD, kE, kF]; first | done | rfl)); (case hn => first | rfl | (simp; done))) | (refine' wpList_loadCell hR rfl rfl rfl inferInstance ?hm ?hv ?_; (case hm => first | with_reducible assumption | repeat (first | exact .head _ | with_reducible assumption | apply List.mem_cons_of_mem)); (case hv => first | rfl | with_reducible assumption)) | (refine' wpList_storeAll hR rfl rfl rfl inferInstance rfl ?hs ?zone ?zvn ?hn ?_; (case hs => repeat (first | exact SetAt.head | with_reducible assumption | apply SetAt.tail)); (case zone => first | rfl | with_reducible assumption); (case zvn => first | rfl | (simp; done)); (case hn => first | rfl | (simp; done)); clear hR; intro w hR) | (refine' wpList_storeCell hR rfl rfl rfl inferInstance rfl rfl ?hs ?hn ?hl ?_; (case hs => repeat (first | exact SetAt.head | with_reducible assumption | apply SetAt.tail)); (case hn => first | exact of_decide_eq_true rfl | (show _ < 4; with_reducible assumption) | (simp; first | done | omega)); (case hl => first | with_reducible assumption | (simp only [nl, kA, kB]; first | done | rfl) | rfl); clear hR; intro w hR) | (go_at_call 69; refine (cb _).mono ?_; rintro e w ⟨rfl, hb⟩; replace hR := hR.call hb; clear hb))
    refine wp_region_ord hR [0, 0, 0, 0, 0, 0, 0, 0, 0, 0, 0, 0, 0, 0, 0, 0, 2] [] mixed (by kernel_rfl) rfl rfl (fun K hK => ?_)
    clear hR
    repeat ((first | (refine hd_tail ?_) | (refine' hd_move (by decide) rfl (.inl rfl) rfl ?ha ?_) | (refine' hd_move (by decide) rfl (.inr rfl) rfl ?ha ?_) | (refine' hd_loadAll rfl rfl rfl inferInstance ?hm ?hn ?ha ?_; (case hm => first | with_reducible assumption | repeat (first | exact .head _ | with_reducible assumption | apply List.mem_cons_of_mem)); (case hn => first | rfl | (simp; done))) | (refine' hd_loadRow rfl rfl rfl inferInstance ?hm ?hv ?hn ?ha ?_; (case hm => first | with_reducible assumption | repeat (first | exact .head _ | with_reducible assumption | apply List.mem_cons_of_mem)); (case hv => first | with_reducible assumption | (simp only [kC, kD, kE, kF]; first | done | rfl)); (case hn => first | rfl | (simp; done))) | (refine' hd_loadCell rfl rfl rfl inferInstance ?hm ?hv ?ha ?_; (case hm => first | with_reducible assumption | repeat (first | exact .head _ | with_reducible assumption | apply List.mem_cons_of_mem)); (case hv => first | rfl | with_reducible assumption)) | (refine' hd_keepRow rfl rfl rfl inferInstance ?hm ?hv ?hn ?ha ?_; (case hm => first | with_reducible assumption | repeat (first | exact .head _ | with_reducible assumption | apply List.mem_cons_of_mem)); (case hv => first | with_reducible assumption | (simp only [kC, kD, kE, kF]; first | done | rfl)); (case hn => first | rfl | (simp; done))) | (refine' hd_keepCell rfl rfl rfl inferInstance ?hm ?hv ?ha ?_; (case hm => first | with_reducible assumption | repeat (first | exact .head _ | with_reducible assumption | apply List.mem_cons_of_mem)); (case hv => first | rfl | with_reducible assumption)) | ((first | refine' hd_indexAddr (by decide) rfl rfl rfl rfl (fun w => ?hq) ?ha ?_ | refine' hd_binOp (by decide) rfl rfl rfl rfl (fun w => ?hq) ?ha ?_ | refine' hd_extract (by decide) rfl rfl rfl (fun w => ?hq) ?ha ?_ | refine' hd_fieldAddr (by decide) rfl rfl rfl (fun w => ?hq) ?ha ?_ | refine' hd_convert (by decide) rfl rfl rfl (fun w => ?hq) ?ha ?_ | refine' hd_index (by decide) rfl rfl rfl rfl (fun w => ?hq) ?ha ?_ | refine' hd_slice (by decide) rfl rfl rfl rfl rfl rfl (fun w => ?hq) ?ha ?_ | refine' hd_build (by decide) rfl rfl (fun w => ?hq) ?ha ?_ | refine' hd_arrayAt (by decide) rfl rfl rfl (fun w => ?hq) ?ha ?_ | refine' hd_field (by decide) rfl rfl rfl (fun w => ?hq) ?ha ?_); (case hq => go_simp; first | done | rfl)) | (refine' hd_nilCheck (by decide) rfl rfl rfl ?ha ?_) | (refine' hd_pick (by decide) rfl rfl rfl rfl ?ha ?_) | (refine' hd_skip (by decide) rfl ?ha ?_) | (refine' hd_call rfl rfl rfl (enters Try.func90 (by kernel_rfl) (by kernel_rfl) _) (fun w => o0 w) ?ha ?_) | (refine' hd_call rfl rfl rfl (enters Try.func70 (by kernel_rfl) (by kernel_rfl) _) (fun w => c1 w) ?ha ?_) | (refine' hd_pure (by decide) rfl (fun w => ?hq) ?ha ?_; (case hq => simp only [execOp]; go_simp; first | done | rfl); (case ha => simp only [kP, kQ, kA, kB]; try rfl))); try (case ha => simp only [kP, kQ, kA, kB]; try rfl))
    refine hd_nil (hK _ _ ?_)
    clear hK K
    refine tl_gen (fun Q hQ => ?_)
    try simp only [List.nil_append, List.cons_append]
    repeat ((first | refine' tl_move rfl (.inl rfl) rfl ?hk ?ha ?_ | refine' tl_move rfl (.inr rfl) rfl ?hk ?ha ?_ | (refine' tl_storeAll rfl rfl rfl inferInstance rfl ?hs rfl rfl ?hn ?hk ?ha ?_; (case hs => repeat (first | exact SetAt.head | with_reducible assumption | apply SetAt.tail)); (case hn => first | rfl | (simp; done))) | (refine' tl_storeCell rfl rfl rfl inferInstance rfl rfl ?hs ?hn ?hl ?hk ?ha ?_; (case hs => repeat (first | exact SetAt.head | with_reducible assumption | apply SetAt.tail)); (case hn => first | exact of_decide_eq_true rfl | (show _ < 4; with_reducible assumption) | (simp; first | done | omega)); (case hl => first | with_reducible assumption | (simp only [nl, kA, kB]; first | done | rfl) | rfl)) | (refine' tl_storeRow rfl rfl rfl inferInstance rfl rfl ?hvn ?hs ?hn ?hl ?hk ?ha ?_; (case hvn => first | rfl | (simp; done)); (case hs => repeat (first | exact SetAt.head | with_reducible assumption | apply SetAt.tail)); (case hn => first | exact of_decide_eq_true rfl | (show _ < 4; with_reducible assumption) | (simp; first | done | omega)); (case hl => first | with_reducible assumption | (simp only [nl, kA, kB]; first | done | rfl) | rfl)) | (refine' tl_pure rfl (fun w => ?hq) ?hk ?ha ?_; (case hq => go_simp; first | done | rfl))); (case hk => intro p hp; first | exact absurd hp List.not_mem_nil | (obtain rfl := List.mem_singleton.1 hp; repeat (first | exact List.Mem.head _ | with_reducible assumption | apply List.mem_cons_of_mem))); (case ha => simp only [kP, kQ, kA, kB]; try rfl))
    refine tl_nil (fun w hR => hQ _ _ ?_)
    clear hQ Q
    go_wp2_with (first | (refine' wpList_boxRep hR rfl rfl rfl ?_; clear hR; intro blk w hR) | (refine' wpList_allocRep hR rfl rfl inferInstance ?_; clear hR; intro blk w hR) | (refine' wpList_loadAll hR rfl rfl rfl inferInstance ?hm ?hn ?_; (case hm => first | with_reducible assumption | repeat (first | exact .head _ | with_reducible assumption | apply List.mem_cons_of_mem)); (case hn => first | rfl | (simp; done))) | (refine' wpList_loadRow hR rfl rfl rfl inferInstance ?hm ?hv ?hn ?_; (case hm => first | with_reducible assumption | repeat (first | exact .head _ | with_reducible assumption | apply List.mem_cons_of_mem)); (case hv => first | with_reducible assumption | (simp only [kC, kD, kE, kF]; first | done | rfl)); (case hn => first | rfl | (simp; done))) | (refine' wpList_loadCell hR rfl rfl rfl inferInstance ?hm ?hv ?_; (case hm => first | with_reducible assumption | repeat (first | exact .head _ | with_reducible assumption | apply List.mem_cons_of_mem)); (case hv => first | rfl | with_reducible assumption)) | (refine' wpList_storeAll hR rfl rfl rfl inferInstance rfl ?hs ?zone ?zvn ?hn ?_; (case hs => repeat (first | exact SetAt.head | with_reducible assumption | apply SetAt.tail)); (case zone => first | rfl | with_reducible assumption); (case zvn => first | rfl | (simp; done)); (case hn => first | rfl | (simp; done)); clear hR; intro w hR) | (refine' wpList_storeCell hR rfl rfl rfl inferInstance rfl rfl ?hs ?hn ?hl ?_; (case hs => repeat (first | exact SetAt.head | with_reducible assumption | apply SetAt.tail)); (case hn => first | exact of_decide_eq_true rfl | (show _ < 4; with_reducible assumption) | (simp; first | done | omega)); (case hl => first | with_reducible assumption | (simp only [nl, kA, kB]; first | done | rfl) | rfl); clear hR; intro w hR) | fail)
    go_ret
    exact ⟨rfl, hR.weaken (List.sublist_cons_self _ _)⟩
end

instance zeroInt : ZeroT Try.prog 3 [.int .i64 0] := ⟨.int .i64 0, by kernel_rfl, rfl⟩
instance zeroHolds : ZeroT Try.prog 68 [.nilFunc] := ⟨.nilFunc, by kernel_rfl, rfl⟩
set_option maxRecDepth 100000 in
set_option maxHeartbeats 1000000 in
theorem check_small (n t : Nat) (b : Bool) (hn : n < 4294967296) (ht : t < B) (hb : (smallB n && decide (t = 0)) = b) (w : World) : Calls Try.prog 64 #[rsn n t] w fun e w' =>
    e = .returned (.bool b) ∧ Below w.heap.size w w' := by
  replace hb := Held.mk hb
  have hR := Rep.init w
  go_enter Try.func64, Try.ntmps64
  go_wp2_with (first | (refine' wpList_boxRep hR rfl rfl rfl ?_; clear hR; intro blk w hR) | (refine' wpList_allocRep hR rfl rfl inferInstance ?_; clear hR; intro blk w hR) | (refine' wpList_loadAll hR rfl rfl rfl inferInstance ?hm ?hn ?_; (case hm => first | with_reducible assumption | repeat (first | exact .head _ | with_reducible assumption | apply List.mem_cons_of_mem)); (case hn => first | rfl | (simp; done))) | (refine' wpList_loadRow hR rfl rfl rfl inferInstance ?hm ?hv ?hn ?_; (case hm => first | with_reducible assumption | repeat (first | exact .head _ | with_reducible assumption | apply List.mem_cons_of_mem)); (case hv => first | with_reducible assumption | (simp only [kC, kD, kE, kF]; first | done | rfl)); (case hn => first | rfl | (simp; done))) | (refine' wpList_loadCell hR rfl rfl rfl inferInstance ?hm ?hv ?_; (case hm => first | with_reducible assumption | repeat (first | exact .head _ | with_reducible assumption | apply List.mem_cons_of_mem)); (case hv => first | rfl | with_reducible assumption)) | (refine' wpList_storeAll hR rfl rfl rfl inferInstance rfl ?hs ?zone ?zvn ?hn ?_; (case hs => repeat (first | exact SetAt.head | with_reducible assumption | apply SetAt.tail)); (case zone => first | rfl | with_reducible assumption); (case zvn => first | rfl | (simp; done)); (case hn => first | rfl | (simp; done)); clear hR; intro w hR) | (refine' wpList_storeCell hR rfl rfl rfl inferInstance rfl rfl ?hs ?hn ?hl ?_; (case hs => repeat (first | exact SetAt.head | with_reducible assumption | apply SetAt.tail)); (case hn => first | exact of_decide_eq_true rfl | (show _ < 4; with_reducible assumption) | (simp; first | done | omega)); (case hl => first | with_reducible assumption | (simp only [nl, kA, kB]; first | done | rfl) | rfl); clear hR; intro w hR) | (go_at_call 116; refine (holds_small (SetAt.tail SetAt.head) hn ht hb.out hR).mono ?_; clear hR; rintro e w ⟨rfl, hR⟩))
  go_ret
  exact ⟨rfl, hR.below⟩
end Go.Proofs.Ytdmdkdodfngjiaa
