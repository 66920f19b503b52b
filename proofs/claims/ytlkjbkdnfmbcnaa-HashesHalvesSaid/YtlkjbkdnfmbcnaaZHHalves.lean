/- The walk of balefirelaw06.HashesHalves. -/
import Derived.Test.YtlkjbkdnfmbcnaaZK
import Derived.Test.YtlkjbkdnfmbcnaaZO
set_option linter.unusedSimpArgs false
set_option linter.unusedVariables false
namespace Go.Proofs.Ytlkjbkdnfmbcnaa
open Go.RowKit
attribute [local irreducible] Calls Instr.build Instr.buildSlice
section
variable {B0 : Nat} {w0 w : World} {L : List (Nat × Obj)}
theorem append_rows0 (a : Option Addr) (c : Nat) (ty : TypeId) (w : World) : (Builtin.append_ #[22, 22] ty #[.slice none 0 0, .slice a 0 c]).run Try.prog w = .ok (.slice none 0 0) w := by
  obtain ⟨i0, hi, hz0, hz1, hz2⟩ := info_parts info_row
  cases a <;> simp [Builtin.append_, run_underlying Try.underlying22, Builtin.lenOf, Builtin.firstCells, sizeOf, typeInfo, hi, loadCells, loadCellsFrom]
theorem wpList_appendRows0 {ops : Array Oper} {rest : List Oper} {o : Oper} {a : Act} {w : World} {Q : Exit → Act → World → Prop} (hgd : o.guard = none) {s x : Operand} (ho : o.op = .call { callee := .builtin .append, args := #[s, x], argTypes := #[22, 22] })
    (hs : a.eval s = .slice none 0 0) {ad : Option Addr} {c : Nat} (hx : a.eval x = .slice ad 0 c) (h : wpList Try.prog ops Q rest (a.put o.dst (.slice none 0 0)) w) : wpList Try.prog ops Q (o :: rest) a w :=
  wpList_plain hgd fun _ hK => by
    unfold Oper.wp execOp
    simp only [ho, resolve, invoke, builtin, Sem.run_bind, Sem.run_pure, Result.andThen_ok, List.map_toArray, List.map_cons, List.map_nil, hs, hx, append_rows0]
    exact hK _ _ h
/-- Rows of the caller's, and one more of the call's own. -/
theorem rows_more {g cap nb N n : Nat} {cur : List Value} {V : Nat → Value} {xss : List (List Nat)} (hN : xss.length = N) (hn : n < 256) (hold : ∀ j, j < N → SliceOf B0 w0 L (V j) (xss.getD j []) ∧ (xss.getD j []).length ≤ reachBytes) (hg : (g, Obj.cells cur.toArray 38) ∈ L) (hnb : (nb, Obj.cells [Value.int .u8 (n : Int)].toArray 5) ∈ L)
    (hcur : cur.take (N + 1) = rowV V N ++ [.slice (some ⟨nb, 0, none⟩) 1 1]) (hle : N + 1 ≤ cap) (hc : cap ≤ maxLen) : RowsOf B0 w0 L (.slice (some ⟨g, 0, none⟩) (N + 1) cap) (xss ++ [[n]]) := by
  have hlen : (xss ++ [[n]]).length = N + 1 := by rw [List.length_append, hN]; rfl
  have hnew : SliceOf B0 w0 L (.slice (some ⟨nb, 0, none⟩) 1 1) [n] := ⟨_, 1, rfl, Nat.le_refl _, by unfold maxLen; omega, fun j => by
    match j with
    | 0 => exact hn
    | j + 1 => exact (by decide : 0 < 256), fun _ => ⟨nb, 0, rfl, fun w hw j hj => by
      obtain rfl : j = 0 := by simpa using hj
      exact hw.cell hnb rfl⟩⟩
  refine ⟨some ⟨g, 0, none⟩, cap, fun j => if j < N then V j else .slice (some ⟨nb, 0, none⟩) 1 1, by rw [hlen], by rw [hlen]; exact hle, hc, fun j hj => ?_, fun _ => ⟨g, 0, rfl, fun w hw j hj => ?_⟩⟩
  · rw [hlen] at hj
    show SliceOf B0 w0 L (if j < N then V j else .slice (some ⟨nb, 0, none⟩) 1 1) _ ∧ _
    by_cases h : j < N
    · have e : (xss ++ [[n]]).getD j [] = xss.getD j [] := by rw [List.getD_eq_getElem?_getD, List.getElem?_append_left (by rw [hN]; exact h), ← List.getD_eq_getElem?_getD]
      rw [if_pos h, e]
      exact hold j h
    · obtain rfl : j = N := by omega
      have e : (xss ++ [[n]]).getD j [] = [n] := by
        rw [List.getD_eq_getElem?_getD, List.getElem?_append_right (by rw [hN]; exact Nat.le_refl _), hN, Nat.sub_self]
        rfl
      rw [if_neg h, e]
      exact ⟨hnew, by show 1 ≤ reachBytes; unfold reachBytes; decide⟩
  · rw [hlen] at hj
    rw [Nat.zero_add]
    refine hw.cell hg ?_
    have hc : (cur.take (N + 1))[j]? = cur[j]? := by rw [List.getElem?_take, if_pos hj]
    rw [← hc, hcur]
    by_cases h : j < N
    · show _ = some (if j < N then V j else _)
      rw [if_pos h, List.getElem?_append_left (by rw [rowV_length]; exact h), rowV_at h]
    · obtain rfl : j = N := by omega
      show _ = some (if j < j then V j else _)
      rw [if_neg h, List.getElem?_append_right (by rw [rowV_length]; exact Nat.le_refl _), rowV_length, Nat.sub_self]
      rfl
theorem one_src {sb : Nat} {x : Value} {t : TypeId} (hm : (sb, Obj.cells [x].toArray t) ∈ L) (hR : Rep B0 w0 L w) : ∀ j u, [x][j]? = some u → w.cell? ((⟨sb, 0, none⟩ : Addr).add j) = some u := fun j u hj => by
  match j, hj with
  | 0, hj =>
    obtain rfl : x = u := Option.some.inj hj
    rw [addr_none]
    exact hR.cell hm rfl
theorem rowV_mem {V : Nat → Value} {n : Nat} {P : Value → Prop} (h : ∀ j, j < n → P (V j)) : ∀ u ∈ rowV V n, P u := fun u hu => by
  obtain ⟨j, hj, rfl⟩ := List.getElem_of_mem hu
  have hjn : j < n := by simpa using hj
  have e := rowV_at (V := V) hjn
  rw [List.getElem?_eq_getElem hj] at e
  rw [Option.some.inj e]
  exact h j hjn
end
/-- The low bits of a number. -/
theorem low_bits {low k : Nat} (hl : low < B) (h1 : 1 ≤ k) (h2 : k < 256) : shN (shN low (256 - (k : Int))) ((k : Int) - 256) = low % 2 ^ k := by
  have e1 : ((256 : Int) - (k : Int)).toNat = 256 - k := by omega
  have e2 : (-((k : Int) - 256)).toNat = 256 - k := by omega
  rw [shN_def (shN low _), if_neg (by omega), if_neg (by omega), shN_def, if_neg (by omega), if_pos (by omega), e1, e2]
  have hB : B = 2 ^ k * 2 ^ (256 - k) := by rw [← Nat.pow_add, show k + (256 - k) = 256 by omega, B_eq]
  rw [hB, Nat.mul_comm (2 ^ k), Nat.mul_comm low, Nat.mul_mod_mul_left, Nat.mul_div_cancel_left _ (Nat.two_pow_pos _)]
theorem one_bit {k : Nat} (h2 : k < 256) : shN 1 (k : Int) = 2 ^ k := by
  rw [shN_def, if_neg (by omega), if_pos (by omega), Int.toNat_natCast, Nat.one_mul]
  exact Nat.mod_eq_of_lt (by rw [B_eq]; exact Nat.pow_lt_pow_right (by decide) h2)
theorem half_low {a b k : Nat} (h2 : k < 256) : (a * B + b) % 2 ^ k = b % 2 ^ k := by
  have hB : B = 2 ^ (256 - k) * 2 ^ k := by rw [← Nat.pow_add, show 256 - k + k = 256 by omega, B_eq]
  rw [hB, ← Nat.mul_assoc, Nat.mul_comm _ (2 ^ k), Nat.mul_add_mod]
set_option maxRecDepth 100000 in
set_option maxHeartbeats 1000000 in
theorem halves_walk (al : ∀ w, Calls Try.prog 14 #[] w fun e w' => e = .returned (.bool true) ∧ Below w.heap.size w w') (W : World) (s : ByteArray) (v : Value) (xs : List (List Nat)) (k : Nat) (hk : k < 256) (h1 : RowsOf W.heap.size W [] v xs) :
    Calls Try.prog 5 #[.string s, v, .int .u8 (k : Int)] W fun e w' => e = .returned (.bool true) ∧ Below W.heap.size W w' := by
  have hR := Rep.init W
  have g1 := fun (L : List (Nat × Obj)) (w' : World) (hR : Rep W.heap.size W L w') => great_any s v xs h1.any hR
  replace h1 := Held.mk h1
  by_cases hz : k = 0
  · subst hz
    go_enter Try.func5, Try.ntmps5
    go_wp2_with (first | (refine' wpList_boxRep hR rfl rfl rfl ?_; clear hR; intro blk w hR) | (refine' wpList_allocRep hR rfl rfl inferInstance ?_; clear hR; intro blk w hR) | (refine' wpList_loadAll hR rfl rfl rfl inferInstance ?hm ?hn ?_; (case hm => first | with_reducible assumption | repeat (first | exact .head _ | with_reducible assumption | apply List.mem_cons_of_mem)); (case hn => first | rfl | (simp; done))) | (refine' wpList_loadRow hR rfl rfl rfl inferInstance ?hm ?hv ?hn ?_; (case hm => first | with_reducible assumption | repeat (first | exact .head _ | with_reducible assumption | apply List.mem_cons_of_mem)); (case hv => first | with_reducible assumption | (simp only [kC, kD, kE, kF]; first | done | rfl)); (case hn => first | rfl | (simp; done))) | (refine' wpList_loadCell hR rfl rfl rfl inferInstance ?hm ?hv ?_; (case hm => first | with_reducible assumption | repeat (first | exact .head _ | with_reducible assumption | apply List.mem_cons_of_mem)); (case hv => first | rfl | with_reducible assumption)) | (refine' wpList_storeAll hR rfl rfl rfl inferInstance rfl ?hs ?zone ?zvn ?hn ?_; (case hs => repeat (first | exact SetAt.head | apply SetAt.tail)); (case zone => first | rfl | with_reducible assumption); (case zvn => first | rfl | (simp; done)); (case hn => first | rfl | (simp; done)); clear hR; intro w hR) | (refine' wpList_storeCell hR rfl rfl rfl inferInstance rfl rfl ?hs ?hn ?hl ?_; (case hs => repeat (first | exact SetAt.head | apply SetAt.tail)); (case hn => first | exact of_decide_eq_true rfl | (show _ < 4; with_reducible assumption) | (simp; first | done | omega)); (case hl => first | with_reducible assumption | (simp only [nl, kA, kB]; first | done | rfl) | rfl); clear hR; intro w hR) | (refine' wpList_loadAllG hR rfl rfl rfl inferInstance ?hm ?hn ?_; (case hm => first | with_reducible assumption | repeat (first | exact .head _ | with_reducible assumption | apply List.mem_cons_of_mem)); (case hn => first | rfl | (simp; done))) | (refine' wpList_loadCellG hR rfl rfl rfl inferInstance ?hm ?hv ?_; (case hm => first | with_reducible assumption | repeat (first | exact .head _ | with_reducible assumption | apply List.mem_cons_of_mem)); (case hv => first | rfl | with_reducible assumption)) | (go_at_call 14; refine (al _).mono ?_; rintro e w ⟨rfl, hb⟩; replace hR := hR.call hb; clear hb) | (go_at_call 7; refine (g1 _ _ hR).mono ?_; clear hR g1; rintro e w ⟨b1, rfl, hb1, hR⟩; rcases b1 with _ | _))
    all_goals go_ret
    all_goals exact ⟨rfl, hR.below⟩
  · have z1 : ¬ (k : Int) = 0 := by omega
    have z2 : ((k : Int) == 0) = false := by simp; omega
    go_enter Try.func5, Try.ntmps5
    go_upto_if 24 with (first | go_skip | (refine' wpList_boxRep hR rfl rfl rfl ?_; clear hR; intro blk w hR) | (refine' wpList_allocRep hR rfl rfl inferInstance ?_; clear hR; intro blk w hR) | (refine' wpList_loadAll hR rfl rfl rfl inferInstance ?hm ?hn ?_; (case hm => first | with_reducible assumption | repeat (first | exact .head _ | with_reducible assumption | apply List.mem_cons_of_mem)); (case hn => first | rfl | (simp; done))) | (refine' wpList_loadRow hR rfl rfl rfl inferInstance ?hm ?hv ?hn ?_; (case hm => first | with_reducible assumption | repeat (first | exact .head _ | with_reducible assumption | apply List.mem_cons_of_mem)); (case hv => first | with_reducible assumption | (simp only [kC, kD, kE, kF]; first | done | rfl)); (case hn => first | rfl | (simp; done))) | (refine' wpList_loadCell hR rfl rfl rfl inferInstance ?hm ?hv ?_; (case hm => first | with_reducible assumption | repeat (first | exact .head _ | with_reducible assumption | apply List.mem_cons_of_mem)); (case hv => first | rfl | with_reducible assumption)) | (refine' wpList_storeAll hR rfl rfl rfl inferInstance rfl ?hs ?zone ?zvn ?hn ?_; (case hs => repeat (first | exact SetAt.head | apply SetAt.tail)); (case zone => first | rfl | with_reducible assumption); (case zvn => first | rfl | (simp; done)); (case hn => first | rfl | (simp; done)); clear hR; intro w hR) | (refine' wpList_storeCell hR rfl rfl rfl inferInstance rfl rfl ?hs ?hn ?hl ?_; (case hs => repeat (first | exact SetAt.head | apply SetAt.tail)); (case hn => first | exact of_decide_eq_true rfl | (show _ < 4; with_reducible assumption) | (simp; first | done | omega)); (case hl => first | with_reducible assumption | (simp only [nl, kA, kB]; first | done | rfl) | rfl); clear hR; intro w hR) | (refine' wpList_loadAllG hR rfl rfl rfl inferInstance ?hm ?hn ?_; (case hm => first | with_reducible assumption | repeat (first | exact .head _ | with_reducible assumption | apply List.mem_cons_of_mem)); (case hn => first | rfl | (simp; done))) | (refine' wpList_loadCellG hR rfl rfl rfl inferInstance ?hm ?hv ?_; (case hm => first | with_reducible assumption | repeat (first | exact .head _ | with_reducible assumption | apply List.mem_cons_of_mem)); (case hv => first | rfl | with_reducible assumption)) | (go_at_call 14; refine (al _).mono ?_; rintro e w ⟨rfl, hb⟩; replace hR := hR.call hb; clear hb) | (go_at_call 7; refine (g1 _ _ hR).mono ?_; clear hR g1; rintro e w ⟨b1, rfl, hb1, hR⟩; rcases b1 with _ | _))
    · obtain ⟨a1, a2, a3⟩ := hb1 trivial
      clear hb1
      have p1 : ∀ j, j < xs.length → (xs.getD j []).length ≤ 1048576 := fun j hj => by
        have := totL_part xs hj
        omega
      obtain ⟨H, hH⟩ : ∃ H, hashF (encB (strB s) (xs ++ [[1]])) = H := ⟨_, rfl⟩
      have hHl : ∀ i, H i < 256 := fun i => by rw [← hH]; exact hashF_lt _ i
      obtain ⟨low, hlow⟩ : ∃ l, longN (b32 H) = l := ⟨_, rfl⟩
      have ll : low < B := by rw [← hlow]; exact longN_lt _ (b32_lt _ hHl)
      have hhalf : halfN (strB s) xs 1 = low := by rw [halfN_def, hH, hlow]
      have o1 := of_any 1 (by decide)
      obtain ⟨m, hm⟩ : ∃ m, shN 1 (k : Int) = m := ⟨_, rfl⟩
      obtain ⟨x, hx⟩ : ∃ m, shN low (256 - (k : Int)) = m := ⟨_, rfl⟩
      obtain ⟨n, hn⟩ : ∃ m, shN x ((k : Int) - 256) = m := ⟨_, rfl⟩
      have lm : m < B := by rw [← hm]; exact shN_lt (lt_B (by decide)) _
      have lx : x < B := by rw [← hx]; exact shN_lt ll _
      have s1 := shift_in 1 (k : Int) (lt_B (by decide)) (by omega) (by omega)
      have s2 := shift_in low (256 - (k : Int)) ll (by omega) (by omega)
      have s3 := shift_in x ((k : Int) - 256) lx (by omega) (by omega)
      rw [hm] at s1
      rw [hx] at s2
      rw [hn] at s3
      have m0 : m ≠ 0 := by rw [← hm, one_bit hk]; exact Nat.ne_of_gt (Nat.two_pow_pos _)
      have hnum : hnumN (strB s) xs m = n := by
        unfold hnumN
        rw [widN_def, if_neg m0, hhalf, ← hn, ← hx, low_bits ll (by omega) hk, ← hm, one_bit hk, half_low hk]
      have cn := fun (L : List (Nat × Obj)) (w : World) (hR : Rep W.heap.size W L w) => hash_number m s v xs lm (by omega) (by omega) p1 h1.out.any hR
      rw [hnum, if_neg m0] at cn
      have ch := fun (L : List (Nat × Obj)) (v' : Value) (w : World) (hv : RowsOf W.heap.size W L v' (xs ++ [[1]])) (hR : Rep W.heap.size W L w) => hashes_of s v' (xs ++ [[1]]) (by omega) (by rw [List.length_append]; simp; omega) (fun j hj => by
        by_cases h : j < xs.length
        · rw [List.getD_eq_getElem?_getD, List.getElem?_append_left h, ← List.getD_eq_getElem?_getD]; exact p1 j h
        · rw [List.getD_eq_getElem?_getD, List.getElem?_append_right (by omega)]
          have hj' : j - xs.length = 0 := by rw [List.length_append] at hj; simp at hj; omega
          rw [hj']
          exact (by decide : 1 ≤ 1048576)) hv hR
      rw [hH] at ch
      have cg := fun (hb : Nat) (M : List (Nat × Obj)) (t : TypeId) (w : World) (hm : (hb, Obj.cells (u8s 32 H).toArray t) ∈ M) (hR : Rep W.heap.size W M w) => get_long _ (b32 H) (b32_length H) (slice_here hHl hm hR)
      rw [hlow] at cg
      have f1 : IntKind.i64.wrap (k : Int) = (k : Int) := by rw [IntKind.wrap_i64]; omega
      have f2 : IntKind.i64.wrap (256 - (k : Int)) = 256 - (k : Int) := by rw [IntKind.wrap_i64]; omega
      have f3 : IntKind.i64.wrap ((k : Int) - 256) = (k : Int) - 256 := by rw [IntKind.wrap_i64]; omega
      have en := eqN_self n
      have hone := u8s_one 32 H
      obtain ⟨i0, hi, hz0, hz1, hz2⟩ := info_parts info_row
      obtain ⟨ad, cp, V, rfl, h1', h2', h4, h5⟩ := h1.out
      obtain ⟨N, hN⟩ : ∃ N, xs.length = N := ⟨_, rfl⟩
      rw [hN] at h1' h4 h5 a2 ⊢
      simp only [hN] at cn
      by_cases hN0 : N = 0
      · subst hN0
        have mx2 : 1 ≤ maxLen := by unfold maxLen; omega
        have by2 : 1 * 24 ≤ 140737488355328 := by omega
        replace h4 := Held.mk h4
        replace hN := Held.mk hN
        replace hHl := Held.mk hHl
        replace h1 := Held.mk h1.out
        clear hhalf hm hx hn hnum m0 a3 p1 hlow h5 hH
        go_wp2_with (first | (refine' wpList_boxRep hR rfl rfl rfl ?_; clear hR; intro blk w hR) | (refine' wpList_allocRep hR rfl rfl inferInstance ?_; clear hR; intro blk w hR) | (refine' wpList_loadAll hR rfl rfl rfl inferInstance ?hm ?hn ?_; (case hm => first | with_reducible assumption | repeat (first | exact .head _ | with_reducible assumption | apply List.mem_cons_of_mem)); (case hn => first | rfl | (simp; done))) | (refine' wpList_loadRow hR rfl rfl rfl inferInstance ?hm ?hv ?hn ?_; (case hm => first | with_reducible assumption | repeat (first | exact .head _ | with_reducible assumption | apply List.mem_cons_of_mem)); (case hv => first | with_reducible assumption | (simp only [kC, kD, kE, kF]; first | done | rfl)); (case hn => first | rfl | (simp; done))) | (refine' wpList_loadCell hR rfl rfl rfl inferInstance ?hm ?hv ?_; (case hm => first | with_reducible assumption | repeat (first | exact .head _ | with_reducible assumption | apply List.mem_cons_of_mem)); (case hv => first | rfl | with_reducible assumption)) | (refine' wpList_storeAll hR rfl rfl rfl inferInstance rfl ?hs ?zone ?zvn ?hn ?_; (case hs => repeat (first | exact SetAt.head | apply SetAt.tail)); (case zone => first | rfl | with_reducible assumption); (case zvn => first | rfl | (simp; done)); (case hn => first | rfl | (simp; done)); clear hR; intro w hR) | (refine' wpList_storeCell hR rfl rfl rfl inferInstance rfl rfl ?hs ?hn ?hl ?_; (case hs => repeat (first | exact SetAt.head | apply SetAt.tail)); (case hn => first | exact of_decide_eq_true rfl | (show _ < 4; with_reducible assumption) | (simp; first | done | omega)); (case hl => first | with_reducible assumption | (simp only [nl, kA, kB]; first | done | rfl) | rfl); clear hR; intro w hR) | (refine' wpList_loadAllG hR rfl rfl rfl inferInstance ?hm ?hn ?_; (case hm => first | with_reducible assumption | repeat (first | exact .head _ | with_reducible assumption | apply List.mem_cons_of_mem)); (case hn => first | rfl | (simp; done))) | (refine' wpList_loadCellG hR rfl rfl rfl inferInstance ?hm ?hv ?_; (case hm => first | with_reducible assumption | repeat (first | exact .head _ | with_reducible assumption | apply List.mem_cons_of_mem)); (case hv => first | rfl | with_reducible assumption)) | (refine' wpList_appendRows0 rfl rfl rfl rfl ?_) | (refine' wpList_oneNew hR rfl rfl rfl (byte_new _) ?_; clear hR; intro nb w hR) | (refine' wpList_oneNew hR rfl rfl rfl (rows_new _ _ _) ?_; clear hR; intro sb w hR) | (refine' wpList_appendNew hR rfl rfl Try.underlying22 hi hz0 hz1 hz2 rfl rfl rfl (news := [Value.slice (some ⟨nb, 0, none⟩) 1 1]) rfl Nat.one_pos (one_src (.head _) hR) (fun u hu => ?ho) mx2 by2 ?_; (case ho => rw [List.mem_singleton.1 hu]; rfl); clear hR; intro g2 cap2 cur2 w hR e1 e2 e3 e4; replace e4 := Held.mk e4) | (go_at_call 11; refine (ch _ _ _ (rows_more (V := V) hN.out (by decide) (fun j hj => absurd hj (Nat.not_lt_zero j)) (by exact .head _) (by exact .tail _ (.tail _ (.head _))) (by rw [rowV_def]; exact e4.out) e1 e2) hR).mono ?_; clear hR; rintro e w ⟨rfl, hR⟩) | (go_at_call 19; refine (cg _ _ _ _ (.head _) hR).mono ?_; clear cg; rintro e w ⟨rfl, hbw⟩; replace hR := hR.call hbw; clear hbw) | (go_at_call 21; refine (o1 _).mono ?_; rintro e w ⟨rfl, hb⟩; replace hR := hR.call hb; clear hb) | (go_at_call 20; refine (s1 _).mono ?_; rintro e w ⟨rfl, hb⟩; replace hR := hR.call hb; clear hb) | (go_at_call 20; refine (s2 _).mono ?_; rintro e w ⟨rfl, hb⟩; replace hR := hR.call hb; clear hb) | (go_at_call 20; refine (s3 _).mono ?_; rintro e w ⟨rfl, hb⟩; replace hR := hR.call hb; clear hb) | (go_at_call 9; refine (cn _ _ hR).mono ?_; clear hR; rintro e w ⟨rfl, hR⟩))
        go_ret
        exact ⟨rfl, hR.below⟩
      · have hne : xs ≠ [] := fun e => hN0 (by rw [← hN, e]; rfl)
        obtain ⟨bb, off, rfl, h6⟩ := h5 hne
        have hsrc : ∀ (L : List (Nat × Obj)) (w : World), Rep W.heap.size W L w → ∀ j u, (rowV V N)[j]? = some u → w.cell? ((⟨bb, off, none⟩ : Addr).add j) = some u := fun L w hw j u hj => by
          have hjn : j < N := by
            have := (List.getElem?_eq_some_iff.1 hj).1
            simpa using this
          rw [rowV_at hjn] at hj
          rw [← Option.some.inj hj, addr_none]
          exact h6 w hw.bare j hjn
        have hone1 : ∀ u ∈ rowV V N, u.oneCell' = true := rowV_mem fun j hj => one_slice (h4 j hj).1
        have hrl := rowV_length V N
        have p0 : 0 < N := by omega
        have mx : N ≤ maxLen := by unfold maxLen; omega
        have by1 : N * 24 ≤ 140737488355328 := by omega
        have mx2 : N + 1 ≤ maxLen := by unfold maxLen; omega
        have by2 : (N + 1) * 24 ≤ 140737488355328 := by omega
        replace h4 := Held.mk h4
        replace hsrc := Held.mk hsrc
        replace hone1 := Held.mk hone1
        replace hrl := Held.mk hrl
        replace hN := Held.mk hN
        replace hHl := Held.mk hHl
        replace h1 := Held.mk h1.out
        clear hhalf hm hx hn hnum m0 a3 p1 hlow h5 h6 hH hne hN0
        go_wp2_with (first | (refine' wpList_boxRep hR rfl rfl rfl ?_; clear hR; intro blk w hR) | (refine' wpList_allocRep hR rfl rfl inferInstance ?_; clear hR; intro blk w hR) | (refine' wpList_loadAll hR rfl rfl rfl inferInstance ?hm ?hn ?_; (case hm => first | with_reducible assumption | repeat (first | exact .head _ | with_reducible assumption | apply List.mem_cons_of_mem)); (case hn => first | rfl | (simp; done))) | (refine' wpList_loadRow hR rfl rfl rfl inferInstance ?hm ?hv ?hn ?_; (case hm => first | with_reducible assumption | repeat (first | exact .head _ | with_reducible assumption | apply List.mem_cons_of_mem)); (case hv => first | with_reducible assumption | (simp only [kC, kD, kE, kF]; first | done | rfl)); (case hn => first | rfl | (simp; done))) | (refine' wpList_loadCell hR rfl rfl rfl inferInstance ?hm ?hv ?_; (case hm => first | with_reducible assumption | repeat (first | exact .head _ | with_reducible assumption | apply List.mem_cons_of_mem)); (case hv => first | rfl | with_reducible assumption)) | (refine' wpList_storeAll hR rfl rfl rfl inferInstance rfl ?hs ?zone ?zvn ?hn ?_; (case hs => repeat (first | exact SetAt.head | apply SetAt.tail)); (case zone => first | rfl | with_reducible assumption); (case zvn => first | rfl | (simp; done)); (case hn => first | rfl | (simp; done)); clear hR; intro w hR) | (refine' wpList_storeCell hR rfl rfl rfl inferInstance rfl rfl ?hs ?hn ?hl ?_; (case hs => repeat (first | exact SetAt.head | apply SetAt.tail)); (case hn => first | exact of_decide_eq_true rfl | (show _ < 4; with_reducible assumption) | (simp; first | done | omega)); (case hl => first | with_reducible assumption | (simp only [nl, kA, kB]; first | done | rfl) | rfl); clear hR; intro w hR) | (refine' wpList_loadAllG hR rfl rfl rfl inferInstance ?hm ?hn ?_; (case hm => first | with_reducible assumption | repeat (first | exact .head _ | with_reducible assumption | apply List.mem_cons_of_mem)); (case hn => first | rfl | (simp; done))) | (refine' wpList_loadCellG hR rfl rfl rfl inferInstance ?hm ?hv ?_; (case hm => first | with_reducible assumption | repeat (first | exact .head _ | with_reducible assumption | apply List.mem_cons_of_mem)); (case hv => first | rfl | with_reducible assumption)) | (refine' wpList_appendNew hR rfl rfl Try.underlying22 hi hz0 hz1 hz2 rfl rfl rfl hrl.out p0 (hsrc.out _ _ hR) hone1.out mx by1 ?_; clear hR; intro g1 cap1 cur1 w hR d1 d2 d3 d4) | (refine' wpList_oneNew hR rfl rfl rfl (byte_new _) ?_; clear hR; intro nb w hR) | (refine' wpList_oneNew hR rfl rfl rfl (rows_new _ _ _) ?_; clear hR; intro sb w hR) | (refine' wpList_appendRep (hR.permB ((List.Perm.cons _ (List.Perm.swap _ _ _)).trans (List.Perm.swap _ _ _))) rfl rfl Try.underlying22 hi hz0 hz1 hz2 rfl rfl d1 d2 d3 rfl (news := [Value.slice (some ⟨nb, 0, none⟩) 1 1]) rfl (one_src (.head _) hR) (fun u hu => ?ho) mx2 by2 ?_; (case ho => rw [List.mem_singleton.1 hu]; rfl); clear hR; intro g2 cap2 cur2 w hR e1 e2 e3 e4; replace d4 := Held.mk d4; replace e4 := Held.mk e4) | (go_at_call 11; refine (ch _ _ _ (rows_more hN.out (by decide) (fun j hj => ⟨(h4.out j hj).1.any, (h4.out j hj).2⟩) (by exact .head _) (by exact .tail _ (.tail _ (.head _))) (by rw [e4.out, d4.out]) e1 e2) hR).mono ?_; clear hR; rintro e w ⟨rfl, hR⟩) | (go_at_call 19; refine (cg _ _ _ _ (.head _) hR).mono ?_; clear cg; rintro e w ⟨rfl, hbw⟩; replace hR := hR.call hbw; clear hbw) | (go_at_call 21; refine (o1 _).mono ?_; rintro e w ⟨rfl, hb⟩; replace hR := hR.call hb; clear hb) | (go_at_call 20; refine (s1 _).mono ?_; rintro e w ⟨rfl, hb⟩; replace hR := hR.call hb; clear hb) | (go_at_call 20; refine (s2 _).mono ?_; rintro e w ⟨rfl, hb⟩; replace hR := hR.call hb; clear hb) | (go_at_call 20; refine (s3 _).mono ?_; rintro e w ⟨rfl, hb⟩; replace hR := hR.call hb; clear hb) | (go_at_call 9; refine (cn _ _ hR).mono ?_; clear hR; rintro e w ⟨rfl, hR⟩))
        go_ret
        exact ⟨rfl, hR.below⟩
    · go_wp2_with (first | (refine' wpList_boxRep hR rfl rfl rfl ?_; clear hR; intro blk w hR) | (refine' wpList_allocRep hR rfl rfl inferInstance ?_; clear hR; intro blk w hR) | (refine' wpList_loadAll hR rfl rfl rfl inferInstance ?hm ?hn ?_; (case hm => first | with_reducible assumption | repeat (first | exact .head _ | with_reducible assumption | apply List.mem_cons_of_mem)); (case hn => first | rfl | (simp; done))) | (refine' wpList_loadRow hR rfl rfl rfl inferInstance ?hm ?hv ?hn ?_; (case hm => first | with_reducible assumption | repeat (first | exact .head _ | with_reducible assumption | apply List.mem_cons_of_mem)); (case hv => first | with_reducible assumption | (simp only [kC, kD, kE, kF]; first | done | rfl)); (case hn => first | rfl | (simp; done))) | (refine' wpList_loadCell hR rfl rfl rfl inferInstance ?hm ?hv ?_; (case hm => first | with_reducible assumption | repeat (first | exact .head _ | with_reducible assumption | apply List.mem_cons_of_mem)); (case hv => first | rfl | with_reducible assumption)) | (refine' wpList_storeAll hR rfl rfl rfl inferInstance rfl ?hs ?zone ?zvn ?hn ?_; (case hs => repeat (first | exact SetAt.head | apply SetAt.tail)); (case zone => first | rfl | with_reducible assumption); (case zvn => first | rfl | (simp; done)); (case hn => first | rfl | (simp; done)); clear hR; intro w hR) | (refine' wpList_storeCell hR rfl rfl rfl inferInstance rfl rfl ?hs ?hn ?hl ?_; (case hs => repeat (first | exact SetAt.head | apply SetAt.tail)); (case hn => first | exact of_decide_eq_true rfl | (show _ < 4; with_reducible assumption) | (simp; first | done | omega)); (case hl => first | with_reducible assumption | (simp only [nl, kA, kB]; first | done | rfl) | rfl); clear hR; intro w hR) | (go_at_call 14; refine (al _).mono ?_; rintro e w ⟨rfl, hb⟩; replace hR := hR.call hb; clear hb))
      go_ret
      exact ⟨rfl, hR.below⟩
end Go.Proofs.Ytlkjbkdnfmbcnaa
