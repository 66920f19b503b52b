/- The contracts of the deeds of mods: sums, differences, products. -/
import Derived.Test.YtdmdkdodfngjiaaBackLaw
import Derived.Test.YtdmdkdodfngjiaaAlloc
import Derived.Test.YtdmdkdodfngjiaaGuard
set_option linter.unusedSimpArgs false
set_option linter.unusedVariables false
namespace Go.Proofs.Ytdmdkdodfngjiaa
open Go.RowKit
attribute [local irreducible] Calls

theorem s_lit {a b d : Nat} {c : Int} (ha : a < B) (hb : b < B) (hd : (a + B - b) % B = d) (hc : bor (a : Int) (b : Int) = c) (w : World) : Calls Try.prog 71 #[num a, num b] w fun e w' =>
    e = .returned (.tuple #[num d, .int .u64 c]) ∧ Below w.heap.size w w' := by
  have := sub_any a b ha hb w
  rw [hc, ← num_mod (a + B - b), hd] at this
  exact this

set_option maxRecDepth 100000 in
set_option maxHeartbeats 1000000 in
theorem addm_any (a b m : Nat) (ha : a < m) (hb : b < m) (hm : m < B) (w : World) : Calls Try.prog 85 #[num a, num b, num m] w fun e w' =>
    e = .returned (num ((a + b) % m)) ∧ Below w.heap.size w w' := by
  have bp := B_pos
  obtain ⟨x, hx⟩ : ∃ x, (a + b) % B = x := ⟨_, rfl⟩
  obtain ⟨k, hk⟩ : ∃ k, (a + b) / B = k := ⟨_, rfl⟩
  have hdm := Nat.div_add_mod (a + b) B
  rw [hx, hk] at hdm
  have lx : x < B := by rw [← hx]; exact Nat.mod_lt _ bp
  have lk : k < 2 := by rw [← hk, Nat.div_lt_iff_lt_mul bp]; omega
  obtain ⟨y, hy⟩ : ∃ y, (x + B - m) % B = y := ⟨_, rfl⟩
  have s1 := a_lit (c := (k : Int)) (by omega : a < B) (by omega : b < B) hx (by rw [hk])
  have d1 := s_lit lx hm hy rfl
  have hbor := bor_def (x : Int) (m : Int)
  by_cases hc : m ≤ a + b
  · have hr : (a + b) % m = a + b - m := by rw [Nat.mod_eq_sub_mod hc, Nat.mod_eq_of_lt (by omega)]
    have ey : y = (a + b) % m := by
      rw [hr, ← hy]
      have : k = 0 ∨ k = 1 := by omega
      rcases this with rfl | rfl
      · rw [show x + B - m = (a + b - m) + B by omega, Nat.add_mod_right, Nat.mod_eq_of_lt (by omega)]
      · rw [show x + B - m = a + b - m by omega, Nat.mod_eq_of_lt (by omega)]
    rw [← ey]
    have hcase : (k : Int) = 1 ∨ ((k : Int) = 0 ∧ bor (x : Int) (m : Int) = 0) := by
      have : k = 0 ∨ k = 1 := by omega
      rcases this with rfl | rfl
      · right
        refine ⟨rfl, ?_⟩
        rw [hbor, if_neg (by omega)]
      · exact .inl rfl
    generalize bor (x : Int) (m : Int) = l at *
    clear hbor hc hr ey hx hk hdm lx lk hy bp
    generalize (k : Int) = k at *
    have hR := Rep.init w
    rcases hcase with rfl | ⟨rfl, rfl⟩
    all_goals
      go_enter Try.func85, Try.ntmps85
      go_wp2_with (first | (refine' wpList_boxRep hR rfl rfl rfl ?_; clear hR; intro blk w hR) | (refine' wpList_allocRep hR rfl rfl inferInstance ?_; clear hR; intro blk w hR) | (refine' wpList_loadAll hR rfl rfl rfl inferInstance ?hm ?hn ?_; (case hm => first | with_reducible assumption | repeat (first | exact .head _ | apply List.Mem.tail)); (case hn => first | rfl | (simp; done))) | (refine' wpList_loadRow hR rfl rfl rfl inferInstance ?hm ?hv ?hn ?_; (case hm => first | with_reducible assumption | repeat (first | exact .head _ | apply List.Mem.tail)); (case hv => first | with_reducible assumption | (simp only [kC, kD, kE, kF]; first | done | rfl)); (case hn => first | rfl | (simp; done))) | (refine' wpList_loadCell hR rfl rfl rfl inferInstance ?hm ?hv ?_; (case hm => first | with_reducible assumption | repeat (first | exact .head _ | apply List.Mem.tail)); (case hv => first | rfl | with_reducible assumption)) | (refine' wpList_storeAll hR rfl rfl rfl inferInstance rfl ?hs ?zone ?zvn ?hn ?_; (case hs => repeat (first | exact SetAt.head | apply SetAt.tail)); (case zone => first | rfl | with_reducible assumption); (case zvn => first | rfl | (simp; done)); (case hn => first | rfl | (simp; done)); clear hR; intro w hR) | (refine' wpList_storeCell hR rfl rfl rfl inferInstance rfl rfl ?hs ?hn ?hl ?_; (case hs => repeat (first | exact SetAt.head | apply SetAt.tail)); (case hn => first | exact of_decide_eq_true rfl | (show _ < 4; with_reducible assumption) | (simp; first | done | omega)); (case hl => first | with_reducible assumption | (simp only [nl, kA, kB]; first | done | rfl) | rfl); clear hR; intro w hR) | (go_at_call 54; refine (s1 _).mono ?_; rintro e w ⟨rfl, hb⟩; replace hR := hR.call hb; clear hb) | (go_at_call 71; refine (d1 _).mono ?_; rintro e w ⟨rfl, hb⟩; replace hR := hR.call hb; clear hb))
      (refine' bodyPost_ret (results_c Try.results85 rfl (hR.loadAll (P := Try.prog) (ty := 24) ?hm ?hn)) rfl ⟨?_, hR.below⟩; (case hm => first | with_reducible assumption | repeat (first | exact .head _ | apply List.Mem.tail)); (case hn => first | rfl | (simp; done)))
      rfl
  · have hr : (a + b) % m = x := by
      rw [Nat.mod_eq_of_lt (by omega), ← hx, Nat.mod_eq_of_lt (by omega)]
    have k0 : (k : Int) = 0 := by
      rw [← hk, Nat.div_eq_of_lt (by omega)]; rfl
    have b1 : bor (x : Int) (m : Int) = 1 := by
      rw [hbor, if_pos]
      rw [← hx, Nat.mod_eq_of_lt (by omega)]; omega
    rw [hr]
    rw [k0] at s1
    rw [b1] at d1
    clear hbor hc hr hx hk hdm lx lk hy bp k0 b1
    have hR := Rep.init w
    go_enter Try.func85, Try.ntmps85
    go_wp2_with (first | (refine' wpList_boxRep hR rfl rfl rfl ?_; clear hR; intro blk w hR) | (refine' wpList_allocRep hR rfl rfl inferInstance ?_; clear hR; intro blk w hR) | (refine' wpList_loadAll hR rfl rfl rfl inferInstance ?hm ?hn ?_; (case hm => first | with_reducible assumption | repeat (first | exact .head _ | apply List.Mem.tail)); (case hn => first | rfl | (simp; done))) | (refine' wpList_loadRow hR rfl rfl rfl inferInstance ?hm ?hv ?hn ?_; (case hm => first | with_reducible assumption | repeat (first | exact .head _ | apply List.Mem.tail)); (case hv => first | with_reducible assumption | (simp only [kC, kD, kE, kF]; first | done | rfl)); (case hn => first | rfl | (simp; done))) | (refine' wpList_loadCell hR rfl rfl rfl inferInstance ?hm ?hv ?_; (case hm => first | with_reducible assumption | repeat (first | exact .head _ | apply List.Mem.tail)); (case hv => first | rfl | with_reducible assumption)) | (refine' wpList_storeAll hR rfl rfl rfl inferInstance rfl ?hs ?zone ?zvn ?hn ?_; (case hs => repeat (first | exact SetAt.head | apply SetAt.tail)); (case zone => first | rfl | with_reducible assumption); (case zvn => first | rfl | (simp; done)); (case hn => first | rfl | (simp; done)); clear hR; intro w hR) | (refine' wpList_storeCell hR rfl rfl rfl inferInstance rfl rfl ?hs ?hn ?hl ?_; (case hs => repeat (first | exact SetAt.head | apply SetAt.tail)); (case hn => first | exact of_decide_eq_true rfl | (show _ < 4; with_reducible assumption) | (simp; first | done | omega)); (case hl => first | with_reducible assumption | (simp only [nl, kA, kB]; first | done | rfl) | rfl); clear hR; intro w hR) | (go_at_call 54; refine (s1 _).mono ?_; rintro e w ⟨rfl, hb⟩; replace hR := hR.call hb; clear hb) | (go_at_call 71; refine (d1 _).mono ?_; rintro e w ⟨rfl, hb⟩; replace hR := hR.call hb; clear hb))
    (refine' bodyPost_ret (results_c Try.results85 rfl (hR.loadAll (P := Try.prog) (ty := 24) ?hm ?hn)) rfl ⟨?_, hR.below⟩; (case hm => first | with_reducible assumption | repeat (first | exact .head _ | apply List.Mem.tail)); (case hn => first | rfl | (simp; done)))
    rfl

/-- A difference that goes round. -/
noncomputable def subN : Nat → Nat → Nat → Nat := opq fun a b m => (a + (m - b)) % m
theorem subN_def (a b m : Nat) : subN a b m = (a + (m - b)) % m := by unfold subN; rw [opq_eq]

set_option maxRecDepth 100000 in
set_option maxHeartbeats 1000000 in
theorem subm_any (a b m : Nat) (ha : a < m) (hb : b < m) (hm : m < B) (w : World) : Calls Try.prog 87 #[num a, num b, num m] w fun e w' =>
    e = .returned (num (subN a b m)) ∧ Below w.heap.size w w' := by
  have bp := B_pos
  obtain ⟨x, hx⟩ : ∃ x, (a + B - b) % B = x := ⟨_, rfl⟩
  have lx : x < B := by rw [← hx]; exact Nat.mod_lt _ bp
  obtain ⟨r, hr⟩ : ∃ r, subN a b m = r := ⟨_, rfl⟩
  rw [hr]
  rw [subN_def] at hr
  by_cases hc : a < b
  · have d1 := s_lit (c := 1) (by omega : a < B) (by omega : b < B) hx (by rw [bor_def, if_pos (by omega)])
    have e1 : x = a + B - b := by rw [← hx, Nat.mod_eq_of_lt (by omega)]
    have e2 : r = a + (m - b) := by rw [← hr, Nat.mod_eq_of_lt (by omega)]
    obtain ⟨c, hcc⟩ : ∃ c : Int, (((x + m) / B : Nat) : Int) = c := ⟨_, rfl⟩
    have s1 := a_lit (s := r) lx hm (by rw [e1, e2, show a + B - b + m = (a + (m - b)) + B by omega, Nat.add_mod_right, Nat.mod_eq_of_lt (by omega)]) hcc
    clear bp hx lx hr hc e1 e2 hcc
    have hR := Rep.init w
    go_enter Try.func87, Try.ntmps87
    go_wp2_with (first | (refine' wpList_boxRep hR rfl rfl rfl ?_; clear hR; intro blk w hR) | (refine' wpList_allocRep hR rfl rfl inferInstance ?_; clear hR; intro blk w hR) | (refine' wpList_loadAll hR rfl rfl rfl inferInstance ?hm ?hn ?_; (case hm => first | with_reducible assumption | repeat (first | exact .head _ | apply List.Mem.tail)); (case hn => first | rfl | (simp; done))) | (refine' wpList_loadRow hR rfl rfl rfl inferInstance ?hm ?hv ?hn ?_; (case hm => first | with_reducible assumption | repeat (first | exact .head _ | apply List.Mem.tail)); (case hv => first | with_reducible assumption | (simp only [kC, kD, kE, kF]; first | done | rfl)); (case hn => first | rfl | (simp; done))) | (refine' wpList_loadCell hR rfl rfl rfl inferInstance ?hm ?hv ?_; (case hm => first | with_reducible assumption | repeat (first | exact .head _ | apply List.Mem.tail)); (case hv => first | rfl | with_reducible assumption)) | (refine' wpList_storeAll hR rfl rfl rfl inferInstance rfl ?hs ?zone ?zvn ?hn ?_; (case hs => repeat (first | exact SetAt.head | apply SetAt.tail)); (case zone => first | rfl | with_reducible assumption); (case zvn => first | rfl | (simp; done)); (case hn => first | rfl | (simp; done)); clear hR; intro w hR) | (refine' wpList_storeCell hR rfl rfl rfl inferInstance rfl rfl ?hs ?hn ?hl ?_; (case hs => repeat (first | exact SetAt.head | apply SetAt.tail)); (case hn => first | exact of_decide_eq_true rfl | (show _ < 4; with_reducible assumption) | (simp; first | done | omega)); (case hl => first | with_reducible assumption | (simp only [nl, kA, kB]; first | done | rfl) | rfl); clear hR; intro w hR) | (go_at_call 54; refine (s1 _).mono ?_; rintro e w ⟨rfl, hb⟩; replace hR := hR.call hb; clear hb) | (go_at_call 71; refine (d1 _).mono ?_; rintro e w ⟨rfl, hb⟩; replace hR := hR.call hb; clear hb))
    (refine' bodyPost_ret (results_c Try.results87 rfl (hR.loadAll (P := Try.prog) (ty := 24) ?hm ?hn)) rfl ⟨?_, hR.below⟩; (case hm => first | with_reducible assumption | repeat (first | exact .head _ | apply List.Mem.tail)); (case hn => first | rfl | (simp; done)))
    rfl
  · have d1 := s_lit (c := 0) (by omega : a < B) (by omega : b < B) hx (by rw [bor_def, if_neg (by omega)])
    have e2 : r = x := by
      rw [← hr, ← hx, show a + (m - b) = (a - b) + m by omega, Nat.add_mod_right, Nat.mod_eq_of_lt (by omega), show a + B - b = (a - b) + B by omega, Nat.add_mod_right, Nat.mod_eq_of_lt (by omega)]
    rw [e2]
    clear bp hx lx hr hc e2
    have hR := Rep.init w
    go_enter Try.func87, Try.ntmps87
    go_wp2_with (first | (refine' wpList_boxRep hR rfl rfl rfl ?_; clear hR; intro blk w hR) | (refine' wpList_allocRep hR rfl rfl inferInstance ?_; clear hR; intro blk w hR) | (refine' wpList_loadAll hR rfl rfl rfl inferInstance ?hm ?hn ?_; (case hm => first | with_reducible assumption | repeat (first | exact .head _ | apply List.Mem.tail)); (case hn => first | rfl | (simp; done))) | (refine' wpList_loadRow hR rfl rfl rfl inferInstance ?hm ?hv ?hn ?_; (case hm => first | with_reducible assumption | repeat (first | exact .head _ | apply List.Mem.tail)); (case hv => first | with_reducible assumption | (simp only [kC, kD, kE, kF]; first | done | rfl)); (case hn => first | rfl | (simp; done))) | (refine' wpList_loadCell hR rfl rfl rfl inferInstance ?hm ?hv ?_; (case hm => first | with_reducible assumption | repeat (first | exact .head _ | apply List.Mem.tail)); (case hv => first | rfl | with_reducible assumption)) | (refine' wpList_storeAll hR rfl rfl rfl inferInstance rfl ?hs ?zone ?zvn ?hn ?_; (case hs => repeat (first | exact SetAt.head | apply SetAt.tail)); (case zone => first | rfl | with_reducible assumption); (case zvn => first | rfl | (simp; done)); (case hn => first | rfl | (simp; done)); clear hR; intro w hR) | (refine' wpList_storeCell hR rfl rfl rfl inferInstance rfl rfl ?hs ?hn ?hl ?_; (case hs => repeat (first | exact SetAt.head | apply SetAt.tail)); (case hn => first | exact of_decide_eq_true rfl | (show _ < 4; with_reducible assumption) | (simp; first | done | omega)); (case hl => first | with_reducible assumption | (simp only [nl, kA, kB]; first | done | rfl) | rfl); clear hR; intro w hR) | (go_at_call 71; refine (d1 _).mono ?_; rintro e w ⟨rfl, hb⟩; replace hR := hR.call hb; clear hb))
    (refine' bodyPost_ret (results_c Try.results87 rfl (hR.loadAll (P := Try.prog) (ty := 24) ?hm ?hn)) rfl ⟨?_, hR.below⟩; (case hm => first | with_reducible assumption | repeat (first | exact .head _ | apply List.Mem.tail)); (case hn => first | rfl | (simp; done)))
    rfl
end Go.Proofs.Ytdmdkdodfngjiaa
