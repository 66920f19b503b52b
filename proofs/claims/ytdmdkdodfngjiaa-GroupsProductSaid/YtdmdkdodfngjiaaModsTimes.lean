/- The contracts of mods.word, mods.times. -/
import Derived.Test.YtdmdkdodfngjiaaMods
set_option linter.unusedSimpArgs false
set_option linter.unusedVariables false
namespace Go.Proofs.Ytdmdkdodfngjiaa
open Go.RowKit
attribute [local irreducible] Calls

set_option maxRecDepth 100000 in
set_option maxHeartbeats 1000000 in
theorem word_any (a b m : Nat) (ha : a < m) (hb : b < 18446744073709551616) (hm : m < 18446744073709551616) (w : World) : Calls Try.prog 93 #[.int .u64 (a : Int), .int .u64 (b : Int), .int .u64 (m : Int)] w fun e w' =>
    e = .returned (.int .u64 ((a * b % m : Nat) : Int)) ∧ Below w.heap.size w w' := by
  obtain ⟨h, hh⟩ : ∃ h, a * b / 18446744073709551616 = h := ⟨_, rfl⟩
  obtain ⟨l, hl⟩ : ∃ l, a * b % 18446744073709551616 = l := ⟨_, rfl⟩
  have e := Nat.div_add_mod (a * b) 18446744073709551616
  have lh : h < m := by
    rw [← hh, Nat.div_lt_iff_lt_mul (by decide)]
    exact Nat.mul_lt_mul_of_lt_of_le ha (by omega) (by omega)
  have ll : l < 18446744073709551616 := by rw [← hl]; exact Nat.mod_lt _ (by decide)
  have m1 := fun w => mul64_any a b (by omega) hb w
  rw [mhi_def, mlo_def, hh, hl] at m1
  have d1 := fun w => div64_any h l m lh hm ll w
  rw [show h * 18446744073709551616 + l = a * b by rw [← e, hh, hl, Nat.mul_comm]] at d1
  obtain ⟨q, hq⟩ : ∃ q, a * b / m = q := ⟨_, rfl⟩
  obtain ⟨r, hr⟩ : ∃ r, a * b % m = r := ⟨_, rfl⟩
  rw [hq, hr] at d1
  rw [hr]
  clear hh hl e lh ll hq hr
  have hR := Rep.init w
  go_enter Try.func93, Try.ntmps93
  go_wp2_with (first | (refine' wpList_boxRep hR rfl rfl rfl ?_; clear hR; intro blk w hR) | (refine' wpList_allocRep hR rfl rfl inferInstance ?_; clear hR; intro blk w hR) | (refine' wpList_loadAll hR rfl rfl rfl inferInstance ?hm ?hn ?_; (case hm => first | with_reducible assumption | repeat (first | exact .head _ | apply List.Mem.tail)); (case hn => first | rfl | (simp; done))) | (refine' wpList_loadRow hR rfl rfl rfl inferInstance ?hm ?hv ?hn ?_; (case hm => first | with_reducible assumption | repeat (first | exact .head _ | apply List.Mem.tail)); (case hv => first | with_reducible assumption | (simp only [kC, kD, kE, kF]; first | done | rfl)); (case hn => first | rfl | (simp; done))) | (refine' wpList_loadCell hR rfl rfl rfl inferInstance ?hm ?hv ?_; (case hm => first | with_reducible assumption | repeat (first | exact .head _ | apply List.Mem.tail)); (case hv => first | rfl | with_reducible assumption)) | (refine' wpList_storeAll hR rfl rfl rfl inferInstance rfl ?hs ?zone ?zvn ?hn ?_; (case hs => repeat (first | exact SetAt.head | apply SetAt.tail)); (case zone => first | rfl | with_reducible assumption); (case zvn => first | rfl | (simp; done)); (case hn => first | rfl | (simp; done)); clear hR; intro w hR) | (refine' wpList_storeCell hR rfl rfl rfl inferInstance rfl rfl ?hs ?hn ?hl ?_; (case hs => repeat (first | exact SetAt.head | apply SetAt.tail)); (case hn => first | exact of_decide_eq_true rfl | (show _ < 4; with_reducible assumption) | (simp; first | done | omega)); (case hl => first | with_reducible assumption | (simp only [nl, kA, kB]; first | done | rfl) | rfl); clear hR; intro w hR) | (go_at_call 128; refine (m1 _).mono ?_; rintro e w ⟨rfl, hb⟩; replace hR := hR.call hb; clear hb) | (go_at_call 73; refine (d1 _).mono ?_; rintro e w ⟨rfl, hb⟩; replace hR := hR.call hb; clear hb))
  go_ret
  exact ⟨rfl, hR.below⟩

/-- A product that goes round. -/
noncomputable def mulN : Nat → Nat → Nat → Nat := opq fun a b m => a * b % m
theorem mulN_def (a b m : Nat) : mulN a b m = a * b % m := by unfold mulN; rw [opq_eq]

set_option maxRecDepth 100000 in
set_option maxHeartbeats 1000000 in
theorem timesm_any (a b m : Nat) (ha : a < m) (hb : b < m) (hm : m < B) (w : World) : Calls Try.prog 88 #[num a, num b, num m] w fun e w' =>
    e = .returned (num (mulN a b m)) ∧ Below w.heap.size w w' := by
  have bp := B_pos
  have cb := fun w => bits_any m hm w
  obtain ⟨r, hr⟩ : ∃ r, mulN a b m = r := ⟨_, rfl⟩
  rw [hr]
  rw [mulN_def] at hr
  have lr : r < m := by rw [← hr]; exact Nat.mod_lt _ (by omega)
  by_cases hs : m < 18446744073709551616
  · have hl : (blen m : Int) ≤ 64 := by
      have := (blen_le_iff m 64).mpr hs
      omega
    have ea : wd a 0 = (a : Int) := by rw [wd_eq]; unfold w64; omega
    have eb : wd b 0 = (b : Int) := by rw [wd_eq]; unfold w64; omega
    have em : wd m 0 = (m : Int) := by rw [wd_eq]; unfold w64; omega
    have w1 := fun w => word_any a b m ha (by omega) hs w
    rw [hr, ← ea, ← eb, ← em] at w1
    have o1 := fun w => of_any r (by omega) w
    generalize (blen m : Int) = bl at *
    clear hr lr hs ea eb em bp
    have hR := Rep.init w
    go_enter Try.func88, Try.ntmps88
    go_wp2_with (first | (refine' wpList_boxRep hR rfl rfl rfl ?_; clear hR; intro blk w hR) | (refine' wpList_allocRep hR rfl rfl inferInstance ?_; clear hR; intro blk w hR) | (refine' wpList_loadAll hR rfl rfl rfl inferInstance ?hm ?hn ?_; (case hm => first | with_reducible assumption | repeat (first | exact .head _ | apply List.Mem.tail)); (case hn => first | rfl | (simp; done))) | (refine' wpList_loadRow hR rfl rfl rfl inferInstance ?hm ?hv ?hn ?_; (case hm => first | with_reducible assumption | repeat (first | exact .head _ | apply List.Mem.tail)); (case hv => first | with_reducible assumption | (simp only [kC, kD, kE, kF]; first | done | rfl)); (case hn => first | rfl | (simp; done))) | (refine' wpList_loadCell hR rfl rfl rfl inferInstance ?hm ?hv ?_; (case hm => first | with_reducible assumption | repeat (first | exact .head _ | apply List.Mem.tail)); (case hv => first | rfl | with_reducible assumption)) | (refine' wpList_storeAll hR rfl rfl rfl inferInstance rfl ?hs ?zone ?zvn ?hn ?_; (case hs => repeat (first | exact SetAt.head | apply SetAt.tail)); (case zone => first | rfl | with_reducible assumption); (case zvn => first | rfl | (simp; done)); (case hn => first | rfl | (simp; done)); clear hR; intro w hR) | (refine' wpList_storeCell hR rfl rfl rfl inferInstance rfl rfl ?hs ?hn ?hl ?_; (case hs => repeat (first | exact SetAt.head | apply SetAt.tail)); (case hn => first | exact of_decide_eq_true rfl | (show _ < 4; with_reducible assumption) | (simp; first | done | omega)); (case hl => first | with_reducible assumption | (simp only [nl, kA, kB]; first | done | rfl) | rfl); clear hR; intro w hR) | (go_at_call 69; refine (cb _).mono ?_; rintro e w ⟨rfl, hb⟩; replace hR := hR.call hb; clear hb) | (go_at_call 93; refine (w1 _).mono ?_; rintro e w ⟨rfl, hb⟩; replace hR := hR.call hb; clear hb) | (go_at_call 90; refine (o1 _).mono ?_; rintro e w ⟨rfl, hb⟩; replace hR := hR.call hb; clear hb))
    (refine' bodyPost_ret (results_c Try.results88 rfl (hR.loadAll (P := Try.prog) (ty := 24) ?hm ?hn)) rfl ⟨?_, hR.below⟩; (case hm => first | with_reducible assumption | repeat (first | exact .head _ | apply List.Mem.tail)); (case hn => first | rfl | (simp; done)))
    rfl
  · have hl : ¬ (blen m : Int) ≤ 64 := fun h => hs ((blen_le_iff m 64).mp (by omega))
    obtain ⟨l, hll⟩ : ∃ l, a * b % B = l := ⟨_, rfl⟩
    obtain ⟨h, hh⟩ : ∃ h, a * b / B = h := ⟨_, rfl⟩
    have ll : l < B := by rw [← hll]; exact Nat.mod_lt _ bp
    have lh : h < B := by
      rw [← hh, Nat.div_lt_iff_lt_mul bp]
      exact Nat.mul_lt_mul_of_lt_of_le (by omega) (by omega) (by omega)
    have m1 := m_lit (by omega : a < B) (by omega : b < B) hll hh
    have w1 := w_lit (r := r) (e := 0) ll lh hm (by
      have e := Nat.div_add_mod (a * b) B
      rw [hll, hh, Nat.mul_comm] at e
      rw [widN_def, if_neg (by omega), e, hr]) (by rw [if_neg (by omega)])
    generalize (blen m : Int) = bl at *
    clear hr lr hs hll hh ll lh bp
    have hR := Rep.init w
    go_enter Try.func88, Try.ntmps88
    go_wp2_with (first | (refine' wpList_boxRep hR rfl rfl rfl ?_; clear hR; intro blk w hR) | (refine' wpList_allocRep hR rfl rfl inferInstance ?_; clear hR; intro blk w hR) | (refine' wpList_loadAll hR rfl rfl rfl inferInstance ?hm ?hn ?_; (case hm => first | with_reducible assumption | repeat (first | exact .head _ | apply List.Mem.tail)); (case hn => first | rfl | (simp; done))) | (refine' wpList_loadRow hR rfl rfl rfl inferInstance ?hm ?hv ?hn ?_; (case hm => first | with_reducible assumption | repeat (first | exact .head _ | apply List.Mem.tail)); (case hv => first | with_reducible assumption | (simp only [kC, kD, kE, kF]; first | done | rfl)); (case hn => first | rfl | (simp; done))) | (refine' wpList_loadCell hR rfl rfl rfl inferInstance ?hm ?hv ?_; (case hm => first | with_reducible assumption | repeat (first | exact .head _ | apply List.Mem.tail)); (case hv => first | rfl | with_reducible assumption)) | (refine' wpList_storeAll hR rfl rfl rfl inferInstance rfl ?hs ?zone ?zvn ?hn ?_; (case hs => repeat (first | exact SetAt.head | apply SetAt.tail)); (case zone => first | rfl | with_reducible assumption); (case zvn => first | rfl | (simp; done)); (case hn => first | rfl | (simp; done)); clear hR; intro w hR) | (refine' wpList_storeCell hR rfl rfl rfl inferInstance rfl rfl ?hs ?hn ?hl ?_; (case hs => repeat (first | exact SetAt.head | apply SetAt.tail)); (case hn => first | exact of_decide_eq_true rfl | (show _ < 4; with_reducible assumption) | (simp; first | done | omega)); (case hl => first | with_reducible assumption | (simp only [nl, kA, kB]; first | done | rfl) | rfl); clear hR; intro w hR) | (go_at_call 69; refine (cb _).mono ?_; rintro e w ⟨rfl, hb⟩; replace hR := hR.call hb; clear hb) | (go_at_call 53; refine (m1 _).mono ?_; rintro e w ⟨rfl, hb⟩; replace hR := hR.call hb; clear hb) | (go_at_call 19; refine (w1 _).mono ?_; rintro e w ⟨rfl, hb⟩; replace hR := hR.call hb; clear hb))
    (refine' bodyPost_ret (results_c Try.results88 rfl (hR.loadAll (P := Try.prog) (ty := 24) ?hm ?hn)) rfl ⟨?_, hR.below⟩; (case hm => first | with_reducible assumption | repeat (first | exact .head _ | apply List.Mem.tail)); (case hn => first | rfl | (simp; done)))
    rfl
end Go.Proofs.Ytdmdkdodfngjiaa
