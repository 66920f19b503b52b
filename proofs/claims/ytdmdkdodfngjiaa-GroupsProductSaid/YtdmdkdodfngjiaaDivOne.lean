/- The contract of divides.Div by one word. -/
import Derived.Test.YtdmdkdodfngjiaaNext
import Derived.Test.YtdmdkdodfngjiaaDiv64
set_option linter.unusedSimpArgs false
set_option linter.unusedVariables false
namespace Go.Proofs.Ytdmdkdodfngjiaa
open Go.RowKit

@[go_sem] theorem equalIn_zero (a : Nat) (w : World) : (Op.equalIn 10000 24 (.agg (nl a).toArray) (.agg #[.int .u64 0, .int .u64 0, .int .u64 0, .int .u64 0])).run Try.prog w = .ok (eqN a 0) w := by
  rw [num_zero]; exact equalIn_num a 0 w

/-- What is left, or nothing by nothing. -/
noncomputable def rem0 : Nat → Nat → Nat := opq fun a b => if b = 0 then 0 else a % b
theorem rem0_def (a b : Nat) : rem0 a b = if b = 0 then 0 else a % b := by unfold rem0; rw [opq_eq]
theorem rem0_pos {a b : Nat} (h : b ≠ 0) : rem0 a b = a % b := by rw [rem0_def, if_neg h]
noncomputable def quo0 : Nat → Nat → Nat := opq fun a b => a / b
theorem quo0_def (a b : Nat) : quo0 a b = a / b := by unfold quo0; rw [opq_eq]

/-! ### By one word -/
/-- One word of a division by one word. -/
structure Wo (hi lo b q r : Nat) : Prop where
  q : (hi * 18446744073709551616 + lo) / b = q
  r : (hi * 18446744073709551616 + lo) % b = r
theorem Wo.call {hi lo b q r : Nat} (h : Wo hi lo b q r) (h1 : hi < b) (h2 : b < 18446744073709551616) (h3 : lo < 18446744073709551616) (w : World) :
    Calls Try.prog 73 #[.int .u64 (hi : Int), .int .u64 (lo : Int), .int .u64 (b : Int)] w fun e w' =>
    e = .returned (.tuple #[.int .u64 (q : Int), .int .u64 (r : Int)]) ∧ Below w.heap.size w w' := by
  have := div64_any hi lo b h1 h2 h3 w
  rwa [h.q, h.r] at this
theorem Wo.eq {hi lo b q r : Nat} (h : Wo hi lo b q r) : hi * 18446744073709551616 + lo = b * q + r := by
  rw [← h.q, ← h.r]; exact (Nat.div_add_mod _ _).symm
theorem Wo.lt {hi lo b q r : Nat} (h : Wo hi lo b q r) (hb : 0 < b) : r < b := by
  rw [← h.r]; exact Nat.mod_lt _ hb
theorem Wo.word {hi lo b q r : Nat} (h : Wo hi lo b q r) (h1 : hi < b) (h3 : lo < 18446744073709551616) : q < 18446744073709551616 := by
  rw [← h.q, Nat.div_lt_iff_lt_mul (by omega)]
  have : (hi + 1) * 18446744073709551616 ≤ b * 18446744073709551616 := Nat.mul_le_mul_right _ h1
  rw [Nat.mul_comm 18446744073709551616 b]
  omega
theorem horner (x0 x1 x2 x3 y0 y1 y2 y3 r0 r1 r2 r3 W : Nat) (e3 : y3 = x3 + r3) (e2 : r3 * W + y2 = x2 + r2) (e1 : r2 * W + y1 = x1 + r1) (e0 : r1 * W + y0 = x0 + r0) :
    x0 + W * (x1 + W * (x2 + W * x3)) + r0 = y0 + W * (y1 + W * (y2 + W * y3)) := by grind
theorem ofW_mul (q0 q1 q2 q3 b W : Nat) : (q0 + W * (q1 + W * (q2 + W * q3))) * b = b * q0 + W * (b * q1 + W * (b * q2 + W * (b * q3))) := by grind
theorem div_words (a b : Nat) (ha : a < B) (h0 : 0 < b) (hb : b < 18446744073709551616) : ∃ q3 r3 q2 r2 q1 r1 q0 r0 : Nat,
    Wo 0 (w64 a 3) b q3 r3 ∧ Wo r3 (w64 a 2) b q2 r2 ∧ Wo r2 (w64 a 1) b q1 r1 ∧ Wo r1 (w64 a 0) b q0 r0 ∧ r3 < b ∧ r2 < b ∧ r1 < b ∧
    [Value.int .u64 (q0 : Int), .int .u64 (q1 : Int), .int .u64 (q2 : Int), .int .u64 (q3 : Int)] = nl (quo0 a b) ∧ [Value.int .u64 (r0 : Int), .int .u64 0, .int .u64 0, .int .u64 0] = nl (rem0 a b) := by
  obtain ⟨q3, r3, k3⟩ : ∃ q r, Wo 0 (w64 a 3) b q r := ⟨_, _, rfl, rfl⟩
  obtain ⟨q2, r2, k2⟩ : ∃ q r, Wo r3 (w64 a 2) b q r := ⟨_, _, rfl, rfl⟩
  obtain ⟨q1, r1, k1⟩ : ∃ q r, Wo r2 (w64 a 1) b q r := ⟨_, _, rfl, rfl⟩
  obtain ⟨q0, r0, k0⟩ : ∃ q r, Wo r1 (w64 a 0) b q r := ⟨_, _, rfl, rfl⟩
  have l3 := k3.lt h0
  have l2 := k2.lt h0
  have l1 := k1.lt h0
  have l0 := k0.lt h0
  have e : ofW q0 q1 q2 q3 * b + r0 = a := by
    have h := ofW_w64 a
    rw [Nat.mod_eq_of_lt ha] at h
    have e3 := k3.eq; have e2 := k2.eq; have e1 := k1.eq; have e0 := k0.eq
    have hw := horner (b * q0) (b * q1) (b * q2) (b * q3) (w64 a 0) (w64 a 1) (w64 a 2) (w64 a 3) r0 r1 r2 r3 _ (by rw [Nat.zero_mul, Nat.zero_add] at e3; exact e3) e2 e1 e0
    rw [← h]
    refine Eq.trans ?_ hw
    exact congrArg (· + r0) (ofW_mul _ _ _ _ _ _)
  have eq : a / b = ofW q0 q1 q2 q3 := by rw [← e, Nat.mul_comm, Nat.mul_add_div h0, Nat.div_eq_of_lt l0]; rfl
  have er : a % b = r0 := by rw [← e, Nat.mul_comm, Nat.mul_add_mod, Nat.mod_eq_of_lt l0]
  refine ⟨q3, r3, q2, r2, q1, r1, q0, r0, k3, k2, k1, k0, l3, l2, l1, ?_, ?_⟩
  · rw [quo0_def, eq, nl_ofW _ _ _ _ (k0.word l1 (w64_lt _ _)) (k1.word l2 (w64_lt _ _)) (k2.word l3 (w64_lt _ _)) (k3.word h0 (w64_lt _ _))]
  · rw [rem0_pos (by omega), er, nl_small r0 (by omega)]

attribute [local irreducible] Calls
set_option maxRecDepth 100000 in
set_option maxHeartbeats 4000000 in
theorem div_short (a b : Nat) (ha : a < B) (h0 : b ≠ 0) (hs : b < 18446744073709551616) (w : World) : Calls Try.prog 17 #[num a, num b] w fun e w' =>
    e = .returned (.tuple #[num (quo0 a b), num (rem0 a b), .int .i64 0]) ∧ Below w.heap.size w w' := by
  have hb : b < B := lt_B hs
  obtain ⟨q3, r3, q2, r2, q1, r1, q0, r0, k3, k2, k1, k0, l3, l2, l1, hq, hr⟩ := div_words a b ha (by omega) hs
  have ew : wd b 0 = (b : Int) := by
    rw [wd_eq]; unfold w64; omega
  have d3 := k3.call (by omega) hs (w64_lt _ _)
  have d2 := k2.call l3 hs (w64_lt _ _)
  have d1 := k1.call l2 hs (w64_lt _ _)
  have d0 := k0.call l1 hs (w64_lt _ _)
  rw [← wd_eq, ← ew] at d3 d2 d1 d0
  have nq : num (quo0 a b) = .agg (List.toArray _) := congrArg (fun l => Value.agg l.toArray) hq.symm
  have nr : num (rem0 a b) = .agg (List.toArray _) := congrArg (fun l => Value.agg l.toArray) hr.symm
  rw [nq, nr]
  clear nq nr hq hr k3 k2 k1 k0
  have z := eqN_no hb B_pos h0
  have hR := Rep.init w
  go_enter Try.func17, Try.ntmps17
  go_wp2_with (first | (refine' wpList_boxRep hR rfl rfl rfl ?_; clear hR; intro blk w hR) | (refine' wpList_allocRep hR rfl rfl inferInstance ?_; clear hR; intro blk w hR) | (refine' wpList_loadAll hR rfl rfl rfl inferInstance ?hm ?hn ?_; (case hm => first | with_reducible assumption | repeat (first | exact .head _ | apply List.Mem.tail)); (case hn => first | rfl | (simp; done))) | (refine' wpList_loadRow hR rfl rfl rfl inferInstance ?hm ?hv ?hn ?_; (case hm => first | with_reducible assumption | repeat (first | exact .head _ | apply List.Mem.tail)); (case hv => first | with_reducible assumption | (simp only [kC, kD, kE, kF]; first | done | rfl)); (case hn => first | rfl | (simp; done))) | (refine' wpList_loadCell hR rfl rfl rfl inferInstance ?hm ?hv ?_; (case hm => first | with_reducible assumption | repeat (first | exact .head _ | apply List.Mem.tail)); (case hv => first | rfl | with_reducible assumption)) | (refine' wpList_storeAll hR rfl rfl rfl inferInstance rfl ?hs ?zone ?zvn ?hn ?_; (case hs => repeat (first | exact SetAt.head | apply SetAt.tail)); (case zone => first | rfl | with_reducible assumption); (case zvn => first | rfl | (simp; done)); (case hn => first | rfl | (simp; done)); clear hR; intro w hR) | (refine' wpList_storeCell hR rfl rfl rfl inferInstance rfl rfl ?hs ?hn ?hl ?_; (case hs => repeat (first | exact SetAt.head | apply SetAt.tail)); (case hn => first | exact of_decide_eq_true rfl | (show _ < 4; with_reducible assumption) | (simp; first | done | omega)); (case hl => first | with_reducible assumption | (simp only [nl, kA, kB]; first | done | rfl) | rfl); clear hR; intro w hR) | (go_at_call 72; refine (short_any b hb _).mono ?_; rintro e w ⟨rfl, hb⟩; replace hR := hR.call hb; clear hb))
  refine wp_loop_rounds 5 ?_
  iterate 4
    rw [rounds_succ]
    go_wp2_with (first | (refine' wpList_boxRep hR rfl rfl rfl ?_; clear hR; intro blk w hR) | (refine' wpList_allocRep hR rfl rfl inferInstance ?_; clear hR; intro blk w hR) | (refine' wpList_loadAll hR rfl rfl rfl inferInstance ?hm ?hn ?_; (case hm => first | with_reducible assumption | repeat (first | exact .head _ | apply List.Mem.tail)); (case hn => first | rfl | (simp; done))) | (refine' wpList_loadRow hR rfl rfl rfl inferInstance ?hm ?hv ?hn ?_; (case hm => first | with_reducible assumption | repeat (first | exact .head _ | apply List.Mem.tail)); (case hv => first | with_reducible assumption | (simp only [kC, kD, kE, kF]; first | done | rfl)); (case hn => first | rfl | (simp; done))) | (refine' wpList_loadCell hR rfl rfl rfl inferInstance ?hm ?hv ?_; (case hm => first | with_reducible assumption | repeat (first | exact .head _ | apply List.Mem.tail)); (case hv => first | rfl | with_reducible assumption)) | (refine' wpList_storeAll hR rfl rfl rfl inferInstance rfl ?hs ?zone ?zvn ?hn ?_; (case hs => repeat (first | exact SetAt.head | apply SetAt.tail)); (case zone => first | rfl | with_reducible assumption); (case zvn => first | rfl | (simp; done)); (case hn => first | rfl | (simp; done)); clear hR; intro w hR) | (refine' wpList_storeCell hR rfl rfl rfl inferInstance rfl rfl ?hs ?hn ?hl ?_; (case hs => repeat (first | exact SetAt.head | apply SetAt.tail)); (case hn => first | exact of_decide_eq_true rfl | (show _ < 4; with_reducible assumption) | (simp; first | done | omega)); (case hl => first | with_reducible assumption | (simp only [nl, kA, kB]; first | done | rfl) | rfl); clear hR; intro w hR) | fail)
    refine wp_region_ord hR [0, 0, 0, 0, 0, 0, 0, 0, 0, 0, 0, 1, 0, 2, 2, 2] [] mixed (by kernel_rfl) rfl rfl (fun K hK => ?_)
    clear hR
    repeat ((first | (refine hd_tail ?_) | (refine' hd_move (by decide) rfl (.inl rfl) rfl ?ha ?_) | (refine' hd_move (by decide) rfl (.inr rfl) rfl ?ha ?_) | (refine' hd_loadAll rfl rfl rfl inferInstance ?hm ?hn ?ha ?_; (case hm => first | with_reducible assumption | repeat (first | exact .head _ | apply List.Mem.tail)); (case hn => first | rfl | (simp; done))) | (refine' hd_loadRow rfl rfl rfl inferInstance ?hm ?hv ?hn ?ha ?_; (case hm => first | with_reducible assumption | repeat (first | exact .head _ | apply List.Mem.tail)); (case hv => first | with_reducible assumption | (simp only [kC, kD, kE, kF]; first | done | rfl)); (case hn => first | rfl | (simp; done))) | (refine' hd_loadCell rfl rfl rfl inferInstance ?hm ?hv ?ha ?_; (case hm => first | with_reducible assumption | repeat (first | exact .head _ | apply List.Mem.tail)); (case hv => first | rfl | with_reducible assumption)) | (refine' hd_keepRow rfl rfl rfl inferInstance ?hm ?hv ?hn ?ha ?_; (case hm => first | with_reducible assumption | repeat (first | exact .head _ | apply List.Mem.tail)); (case hv => first | with_reducible assumption | (simp only [kC, kD, kE, kF]; first | done | rfl)); (case hn => first | rfl | (simp; done))) | (refine' hd_keepCell rfl rfl rfl inferInstance ?hm ?hv ?ha ?_; (case hm => first | with_reducible assumption | repeat (first | exact .head _ | apply List.Mem.tail)); (case hv => first | rfl | with_reducible assumption)) | ((first | refine' hd_indexAddr (by decide) rfl rfl rfl rfl (fun w => ?hq) ?ha ?_ | refine' hd_binOp (by decide) rfl rfl rfl rfl (fun w => ?hq) ?ha ?_ | refine' hd_extract (by decide) rfl rfl rfl (fun w => ?hq) ?ha ?_ | refine' hd_fieldAddr (by decide) rfl rfl rfl (fun w => ?hq) ?ha ?_ | refine' hd_convert (by decide) rfl rfl rfl (fun w => ?hq) ?ha ?_ | refine' hd_index (by decide) rfl rfl rfl rfl (fun w => ?hq) ?ha ?_ | refine' hd_slice (by decide) rfl rfl rfl rfl rfl rfl (fun w => ?hq) ?ha ?_ | refine' hd_build (by decide) rfl rfl (fun w => ?hq) ?ha ?_ | refine' hd_arrayAt (by decide) rfl rfl rfl (fun w => ?hq) ?ha ?_ | refine' hd_field (by decide) rfl rfl rfl (fun w => ?hq) ?ha ?_); (case hq => go_simp; first | done | rfl)) | (refine' hd_nilCheck (by decide) rfl rfl rfl ?ha ?_) | (refine' hd_pick (by decide) rfl rfl rfl rfl ?ha ?_) | (refine' hd_skip (by decide) rfl ?ha ?_) | (refine' hd_call rfl rfl rfl (enters Try.func73 (by kernel_rfl) (by kernel_rfl) _) (fun w => d3 w) ?ha ?_) | (refine' hd_call rfl rfl rfl (enters Try.func73 (by kernel_rfl) (by kernel_rfl) _) (fun w => d2 w) ?ha ?_) | (refine' hd_call rfl rfl rfl (enters Try.func73 (by kernel_rfl) (by kernel_rfl) _) (fun w => d1 w) ?ha ?_) | (refine' hd_call rfl rfl rfl (enters Try.func73 (by kernel_rfl) (by kernel_rfl) _) (fun w => d0 w) ?ha ?_)); try (case ha => simp only [kP, kQ, kA, kB]; try rfl))
    refine hd_nil (hK _ _ ?_)
    clear hK K
    refine tl_gen (fun Q hQ => ?_)
    try simp only [List.nil_append, List.cons_append]
    repeat ((first | refine' tl_move rfl (.inl rfl) rfl ?hk ?ha ?_ | refine' tl_move rfl (.inr rfl) rfl ?hk ?ha ?_ | (refine' tl_storeAll rfl rfl rfl inferInstance rfl ?hs rfl rfl ?hn ?hk ?ha ?_; (case hs => repeat (first | exact SetAt.head | apply SetAt.tail)); (case hn => first | rfl | (simp; done))) | (refine' tl_storeCell rfl rfl rfl inferInstance rfl rfl ?hs ?hn ?hl ?hk ?ha ?_; (case hs => repeat (first | exact SetAt.head | apply SetAt.tail)); (case hn => first | exact of_decide_eq_true rfl | (show _ < 4; with_reducible assumption) | (simp; first | done | omega)); (case hl => first | with_reducible assumption | (simp only [nl, kA, kB]; first | done | rfl) | rfl)) | (refine' tl_storeRow rfl rfl rfl inferInstance rfl rfl ?hvn ?hs ?hn ?hl ?hk ?ha ?_; (case hvn => first | rfl | (simp; done)); (case hs => repeat (first | exact SetAt.head | apply SetAt.tail)); (case hn => first | exact of_decide_eq_true rfl | (show _ < 4; with_reducible assumption) | (simp; first | done | omega)); (case hl => first | with_reducible assumption | (simp only [nl, kA, kB]; first | done | rfl) | rfl)) | (refine' tl_pure rfl (fun w => ?hq) ?hk ?ha ?_; (case hq => go_simp; first | done | rfl))); (case hk => intro p hp; first | exact absurd hp List.not_mem_nil | (obtain rfl := List.mem_singleton.1 hp; repeat (first | exact List.Mem.head _ | apply List.Mem.tail))); (case ha => simp only [kP, kQ, kA, kB]; try rfl))
    refine tl_nil (fun w hR => hQ _ _ ?_)
    clear hQ Q
    go_wp2_with (first | (refine' wpList_boxRep hR rfl rfl rfl ?_; clear hR; intro blk w hR) | (refine' wpList_allocRep hR rfl rfl inferInstance ?_; clear hR; intro blk w hR) | (refine' wpList_loadAll hR rfl rfl rfl inferInstance ?hm ?hn ?_; (case hm => first | with_reducible assumption | repeat (first | exact .head _ | apply List.Mem.tail)); (case hn => first | rfl | (simp; done))) | (refine' wpList_loadRow hR rfl rfl rfl inferInstance ?hm ?hv ?hn ?_; (case hm => first | with_reducible assumption | repeat (first | exact .head _ | apply List.Mem.tail)); (case hv => first | with_reducible assumption | (simp only [kC, kD, kE, kF]; first | done | rfl)); (case hn => first | rfl | (simp; done))) | (refine' wpList_loadCell hR rfl rfl rfl inferInstance ?hm ?hv ?_; (case hm => first | with_reducible assumption | repeat (first | exact .head _ | apply List.Mem.tail)); (case hv => first | rfl | with_reducible assumption)) | (refine' wpList_storeAll hR rfl rfl rfl inferInstance rfl ?hs ?zone ?zvn ?hn ?_; (case hs => repeat (first | exact SetAt.head | apply SetAt.tail)); (case zone => first | rfl | with_reducible assumption); (case zvn => first | rfl | (simp; done)); (case hn => first | rfl | (simp; done)); clear hR; intro w hR) | (refine' wpList_storeCell hR rfl rfl rfl inferInstance rfl rfl ?hs ?hn ?hl ?_; (case hs => repeat (first | exact SetAt.head | apply SetAt.tail)); (case hn => first | exact of_decide_eq_true rfl | (show _ < 4; with_reducible assumption) | (simp; first | done | omega)); (case hl => first | with_reducible assumption | (simp only [nl, kA, kB]; first | done | rfl) | rfl); clear hR; intro w hR) | fail)
  rw [rounds_succ]
  go_wp2_with (first | (refine' wpList_boxRep hR rfl rfl rfl ?_; clear hR; intro blk w hR) | (refine' wpList_allocRep hR rfl rfl inferInstance ?_; clear hR; intro blk w hR) | (refine' wpList_loadAll hR rfl rfl rfl inferInstance ?hm ?hn ?_; (case hm => first | with_reducible assumption | repeat (first | exact .head _ | apply List.Mem.tail)); (case hn => first | rfl | (simp; done))) | (refine' wpList_loadRow hR rfl rfl rfl inferInstance ?hm ?hv ?hn ?_; (case hm => first | with_reducible assumption | repeat (first | exact .head _ | apply List.Mem.tail)); (case hv => first | with_reducible assumption | (simp only [kC, kD, kE, kF]; first | done | rfl)); (case hn => first | rfl | (simp; done))) | (refine' wpList_loadCell hR rfl rfl rfl inferInstance ?hm ?hv ?_; (case hm => first | with_reducible assumption | repeat (first | exact .head _ | apply List.Mem.tail)); (case hv => first | rfl | with_reducible assumption)) | (refine' wpList_storeAll hR rfl rfl rfl inferInstance rfl ?hs ?zone ?zvn ?hn ?_; (case hs => repeat (first | exact SetAt.head | apply SetAt.tail)); (case zone => first | rfl | with_reducible assumption); (case zvn => first | rfl | (simp; done)); (case hn => first | rfl | (simp; done)); clear hR; intro w hR) | (refine' wpList_storeCell hR rfl rfl rfl inferInstance rfl rfl ?hs ?hn ?hl ?_; (case hs => repeat (first | exact SetAt.head | apply SetAt.tail)); (case hn => first | exact of_decide_eq_true rfl | (show _ < 4; with_reducible assumption) | (simp; first | done | omega)); (case hl => first | with_reducible assumption | (simp only [nl, kA, kB]; first | done | rfl) | rfl); clear hR; intro w hR) | fail)
  refine wp_region_ord hR [0, 1, 2, 2, 2] [0] mixed (by kernel_rfl) rfl rfl (fun K hK => ?_)
  clear hR
  repeat ((first | (refine hd_tail ?_) | (refine' hd_move (by decide) rfl (.inl rfl) rfl ?ha ?_) | (refine' hd_move (by decide) rfl (.inr rfl) rfl ?ha ?_) | (refine' hd_loadAll rfl rfl rfl inferInstance ?hm ?hn ?ha ?_; (case hm => first | with_reducible assumption | repeat (first | exact .head _ | apply List.Mem.tail)); (case hn => first | rfl | (simp; done))) | (refine' hd_loadRow rfl rfl rfl inferInstance ?hm ?hv ?hn ?ha ?_; (case hm => first | with_reducible assumption | repeat (first | exact .head _ | apply List.Mem.tail)); (case hv => first | with_reducible assumption | (simp only [kC, kD, kE, kF]; first | done | rfl)); (case hn => first | rfl | (simp; done))) | (refine' hd_loadCell rfl rfl rfl inferInstance ?hm ?hv ?ha ?_; (case hm => first | with_reducible assumption | repeat (first | exact .head _ | apply List.Mem.tail)); (case hv => first | rfl | with_reducible assumption)) | (refine' hd_keepRow rfl rfl rfl inferInstance ?hm ?hv ?hn ?ha ?_; (case hm => first | with_reducible assumption | repeat (first | exact .head _ | apply List.Mem.tail)); (case hv => first | with_reducible assumption | (simp only [kC, kD, kE, kF]; first | done | rfl)); (case hn => first | rfl | (simp; done))) | (refine' hd_keepCell rfl rfl rfl inferInstance ?hm ?hv ?ha ?_; (case hm => first | with_reducible assumption | repeat (first | exact .head _ | apply List.Mem.tail)); (case hv => first | rfl | with_reducible assumption)) | ((first | refine' hd_indexAddr (by decide) rfl rfl rfl rfl (fun w => ?hq) ?ha ?_ | refine' hd_binOp (by decide) rfl rfl rfl rfl (fun w => ?hq) ?ha ?_ | refine' hd_extract (by decide) rfl rfl rfl (fun w => ?hq) ?ha ?_ | refine' hd_fieldAddr (by decide) rfl rfl rfl (fun w => ?hq) ?ha ?_ | refine' hd_convert (by decide) rfl rfl rfl (fun w => ?hq) ?ha ?_ | refine' hd_index (by decide) rfl rfl rfl rfl (fun w => ?hq) ?ha ?_ | refine' hd_slice (by decide) rfl rfl rfl rfl rfl rfl (fun w => ?hq) ?ha ?_ | refine' hd_build (by decide) rfl rfl (fun w => ?hq) ?ha ?_ | refine' hd_arrayAt (by decide) rfl rfl rfl (fun w => ?hq) ?ha ?_ | refine' hd_field (by decide) rfl rfl rfl (fun w => ?hq) ?ha ?_); (case hq => go_simp; first | done | rfl)) | (refine' hd_nilCheck (by decide) rfl rfl rfl ?ha ?_) | (refine' hd_pick (by decide) rfl rfl rfl rfl ?ha ?_) | (refine' hd_skip (by decide) rfl ?ha ?_) | fail); try (case ha => simp only [kP, kQ, kA, kB]; try rfl))
  refine hd_nil (hK _ _ ?_)
  clear hK K
  refine tl_gen (fun Q hQ => ?_)
  try simp only [List.nil_append, List.cons_append]
  repeat ((first | refine' tl_move rfl (.inl rfl) rfl ?hk ?ha ?_ | refine' tl_move rfl (.inr rfl) rfl ?hk ?ha ?_ | (refine' tl_storeAll rfl rfl rfl inferInstance rfl ?hs rfl rfl ?hn ?hk ?ha ?_; (case hs => repeat (first | exact SetAt.head | apply SetAt.tail)); (case hn => first | rfl | (simp; done))) | (refine' tl_storeCell rfl rfl rfl inferInstance rfl rfl ?hs ?hn ?hl ?hk ?ha ?_; (case hs => repeat (first | exact SetAt.head | apply SetAt.tail)); (case hn => first | exact of_decide_eq_true rfl | (show _ < 4; with_reducible assumption) | (simp; first | done | omega)); (case hl => first | with_reducible assumption | (simp only [nl, kA, kB]; first | done | rfl) | rfl)) | (refine' tl_storeRow rfl rfl rfl inferInstance rfl rfl ?hvn ?hs ?hn ?hl ?hk ?ha ?_; (case hvn => first | rfl | (simp; done)); (case hs => repeat (first | exact SetAt.head | apply SetAt.tail)); (case hn => first | exact of_decide_eq_true rfl | (show _ < 4; with_reducible assumption) | (simp; first | done | omega)); (case hl => first | with_reducible assumption | (simp only [nl, kA, kB]; first | done | rfl) | rfl)) | (refine' tl_pure rfl (fun w => ?hq) ?hk ?ha ?_; (case hq => go_simp; first | done | rfl))); (case hk => intro p hp; first | exact absurd hp List.not_mem_nil | (obtain rfl := List.mem_singleton.1 hp; repeat (first | exact List.Mem.head _ | apply List.Mem.tail))); (case ha => simp only [kP, kQ, kA, kB]; try rfl))
  refine tl_nil (fun w hR => hQ _ _ ?_)
  clear hQ Q
  go_wp2_with (first | (refine' wpList_boxRep hR rfl rfl rfl ?_; clear hR; intro blk w hR) | (refine' wpList_allocRep hR rfl rfl inferInstance ?_; clear hR; intro blk w hR) | (refine' wpList_loadAll hR rfl rfl rfl inferInstance ?hm ?hn ?_; (case hm => first | with_reducible assumption | repeat (first | exact .head _ | apply List.Mem.tail)); (case hn => first | rfl | (simp; done))) | (refine' wpList_loadRow hR rfl rfl rfl inferInstance ?hm ?hv ?hn ?_; (case hm => first | with_reducible assumption | repeat (first | exact .head _ | apply List.Mem.tail)); (case hv => first | with_reducible assumption | (simp only [kC, kD, kE, kF]; first | done | rfl)); (case hn => first | rfl | (simp; done))) | (refine' wpList_loadCell hR rfl rfl rfl inferInstance ?hm ?hv ?_; (case hm => first | with_reducible assumption | repeat (first | exact .head _ | apply List.Mem.tail)); (case hv => first | rfl | with_reducible assumption)) | (refine' wpList_storeAll hR rfl rfl rfl inferInstance rfl ?hs ?zone ?zvn ?hn ?_; (case hs => repeat (first | exact SetAt.head | apply SetAt.tail)); (case zone => first | rfl | with_reducible assumption); (case zvn => first | rfl | (simp; done)); (case hn => first | rfl | (simp; done)); clear hR; intro w hR) | (refine' wpList_storeCell hR rfl rfl rfl inferInstance rfl rfl ?hs ?hn ?hl ?_; (case hs => repeat (first | exact SetAt.head | apply SetAt.tail)); (case hn => first | exact of_decide_eq_true rfl | (show _ < 4; with_reducible assumption) | (simp; first | done | omega)); (case hl => first | with_reducible assumption | (simp only [nl, kA, kB]; first | done | rfl) | rfl); clear hR; intro w hR) | fail)
  (refine' bodyPost_ret (results_ccr Try.results17 rfl (hR.loadAll (P := Try.prog) (ty := 24) ?hm ?hn) rfl (hR.loadAll (P := Try.prog) (ty := 24) ?hm2 ?hn2)) rfl ⟨?_, hR.below⟩; (case hm => first | with_reducible assumption | repeat (first | exact .head _ | apply List.Mem.tail)); (case hn => first | rfl | (simp; done)); (case hm2 => first | with_reducible assumption | repeat (first | exact .head _ | apply List.Mem.tail)); (case hn2 => first | rfl | (simp; done)))
  rfl

end Go.Proofs.Ytdmdkdodfngjiaa
