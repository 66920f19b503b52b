/- The contracts of RecordsSize (the sum) and of great of balefirelaw06. -/
import Derived.Test.YtlkjbkdnfmbcnaaZF
set_option linter.unusedSimpArgs false
set_option linter.unusedVariables false
namespace Go.Proofs.Ytlkjbkdnfmbcnaa
open Go.RowKit
attribute [local irreducible] Calls
/-- How many bytes the first parts have. -/
def totL (xss : List (List Nat)) (i : Nat) : Nat := ((xss.take i).map List.length).sum
theorem totL_zero (xss : List (List Nat)) : totL xss 0 = 0 := rfl
theorem totL_succ (xss : List (List Nat)) {i : Nat} (h : i < xss.length) : totL xss (i + 1) = totL xss i + (xss.getD i []).length := by
  unfold totL
  rw [List.take_add_one, List.getElem?_eq_getElem h, List.getD_eq_getElem?_getD, List.getElem?_eq_getElem h, List.map_append, List.sum_append]
  simp
theorem totL_mono (xss : List (List Nat)) : ∀ (i j : Nat), i ≤ j → j ≤ xss.length → totL xss i ≤ totL xss j
  | i, 0, h, _ => by obtain rfl : i = 0 := by omega
                     exact Nat.le_refl _
  | i, j + 1, h, hj => by
    by_cases e : i = j + 1
    · rw [e]; exact Nat.le_refl _
    · have := totL_mono xss i j (by omega) (by omega)
      rw [totL_succ xss (by omega)]; omega
theorem totL_part (xss : List (List Nat)) {j : Nat} (h : j < xss.length) : (xss.getD j []).length ≤ totL xss xss.length := by
  have := totL_mono xss (j + 1) xss.length (by omega) (Nat.le_refl _)
  rw [totL_succ xss h] at this
  omega
theorem encR_tot (xss : List (List Nat)) : ∀ i, i ≤ xss.length → (encR xss i).length = 4 * i + totL xss i
  | 0, _ => rfl
  | i + 1, h => by
    rw [encR_succ xss (by omega), totL_succ xss (by omega), List.length_append, List.length_append, beL_length, encR_tot xss i (by omega)]
    omega
section
variable {B0 : Nat} {w0 w : World} {L : List (Nat × Obj)}
set_option maxRecDepth 100000 in
set_option maxHeartbeats 4000000 in
theorem records_sum (v : Value) (xss : List (List Nat)) (h60 : xss.length ≤ 1000) (hv : RowsOf B0 w0 L v xss) (hR : Rep B0 w0 L w) :
    Calls Try.prog 25 #[v] w fun e w' => ∃ s : Nat, e = .returned (.int .i64 (s : Int)) ∧ (s ≤ 1048576 → s = xss.length + totL xss xss.length) ∧ Rep B0 w0 L w' := by
  obtain ⟨a, cp, V, hva, h1, h2, h4, h5⟩ := hv
  obtain ⟨N, hN⟩ : ∃ N, xss.length = N := ⟨_, rfl⟩
  rw [hN] at hva h1 h60 h5 h4 ⊢
  subst hva
  have hr : reachBytes = 140737488351232 := rfl
  replace hN := Held.mk hN
  go_enter Try.func25, Try.ntmps25
  go_wp2_with (first | (refine' wpList_boxRep hR rfl rfl rfl ?_; clear hR; intro blk w hR) | (refine' wpList_allocRep hR rfl rfl inferInstance ?_; clear hR; intro blk w hR) | (refine' wpList_loadAll hR rfl rfl rfl inferInstance ?hm ?hn ?_; (case hm => first | with_reducible assumption | repeat (first | exact .head _ | with_reducible assumption | apply List.mem_cons_of_mem)); (case hn => first | rfl | (simp; done))) | (refine' wpList_loadRow hR rfl rfl rfl inferInstance ?hm ?hv ?hn ?_; (case hm => first | with_reducible assumption | repeat (first | exact .head _ | with_reducible assumption | apply List.mem_cons_of_mem)); (case hv => first | with_reducible assumption | (simp only [kC, kD, kE, kF]; first | done | rfl)); (case hn => first | rfl | (simp; done))) | (refine' wpList_loadCell hR rfl rfl rfl inferInstance ?hm ?hv ?_; (case hm => first | with_reducible assumption | repeat (first | exact .head _ | with_reducible assumption | apply List.mem_cons_of_mem)); (case hv => first | rfl | with_reducible assumption)) | (refine' wpList_storeAll hR rfl rfl rfl inferInstance rfl ?hs ?zone ?zvn ?hn ?_; (case hs => repeat (first | exact SetAt.head | apply SetAt.tail)); (case zone => first | rfl | with_reducible assumption); (case zvn => first | rfl | (simp; done)); (case hn => first | rfl | (simp; done)); clear hR; intro w hR) | (refine' wpList_storeCell hR rfl rfl rfl inferInstance rfl rfl ?hs ?hn ?hl ?_; (case hs => repeat (first | exact SetAt.head | apply SetAt.tail)); (case hn => first | exact of_decide_eq_true rfl | (show _ < 4; with_reducible assumption) | (simp; first | done | omega)); (case hl => first | with_reducible assumption | (simp only [nl, kA, kB]; first | done | rfl) | rfl); clear hR; intro w hR) | fail)
  refine' loop_while (false :: false :: false :: false :: false :: false :: false :: true :: true :: true :: true :: true :: true :: true :: true :: true :: true :: true :: true :: true :: true :: true :: true :: true :: false :: []) (fun (x : Cnt) l => (l.set 3 (.int .i64 (x.s : Int))).set 4 (.int .i64 (x.i : Int))) (fun x => L) (fun x => N - x.i) (fun x => x.i ≤ N ∧ x.s < 1000000000000000 ∧ x.s = N + totL xss x.i) ⟨0, N⟩ ?h0 ?hO ?hR ?hs
  case h0 => exact agree_of rfl rfl rfl
  case hO => exact ⟨Nat.zero_le _, by show N < _; omega, rfl⟩
  case hR => exact hR
  case hs =>
    clear hR
    intro x tm w hO ht hR K hK
    obtain ⟨k, s⟩ := x
    obtain ⟨hk, hs, hall⟩ := hO
    simp only at hk hs hall ht hR
    have g0 : 0 ≤ (k : Int) := by omega
    by_cases hkn : k = N
    · subst hkn
      clear hK
      have t1 : decide ((k : Int) < (k : Int)) = false := decide_eq_false (by omega)
      have t2 : ¬ (k : Int) < (k : Int) := by omega
      replace hall := Held.mk hall
      repeat (first | (obtain ⟨x, tm', e, ht'⟩ := agree_true ht; clear ht; subst e; have ht := ht'; clear ht') | (obtain ⟨tm', e, ht'⟩ := agree_false ht; clear ht; subst e; have ht := ht'; clear ht'))
      obtain rfl := agree_nil ht
      clear ht
      go_wp2_with (first | (refine' wpList_boxRep hR rfl rfl rfl ?_; clear hR; intro blk w hR) | (refine' wpList_allocRep hR rfl rfl inferInstance ?_; clear hR; intro blk w hR) | (refine' wpList_loadAll hR rfl rfl rfl inferInstance ?hm ?hn ?_; (case hm => first | with_reducible assumption | repeat (first | exact .head _ | with_reducible assumption | apply List.mem_cons_of_mem)); (case hn => first | rfl | (simp; done))) | (refine' wpList_loadRow hR rfl rfl rfl inferInstance ?hm ?hv ?hn ?_; (case hm => first | with_reducible assumption | repeat (first | exact .head _ | with_reducible assumption | apply List.mem_cons_of_mem)); (case hv => first | with_reducible assumption | (simp only [kC, kD, kE, kF]; first | done | rfl)); (case hn => first | rfl | (simp; done))) | (refine' wpList_loadCell hR rfl rfl rfl inferInstance ?hm ?hv ?_; (case hm => first | with_reducible assumption | repeat (first | exact .head _ | with_reducible assumption | apply List.mem_cons_of_mem)); (case hv => first | rfl | with_reducible assumption)) | (refine' wpList_storeAll hR rfl rfl rfl inferInstance rfl ?hs ?zone ?zvn ?hn ?_; (case hs => repeat (first | exact SetAt.head | apply SetAt.tail)); (case zone => first | rfl | with_reducible assumption); (case zvn => first | rfl | (simp; done)); (case hn => first | rfl | (simp; done)); clear hR; intro w hR) | (refine' wpList_storeCell hR rfl rfl rfl inferInstance rfl rfl ?hs ?hn ?hl ?_; (case hs => repeat (first | exact SetAt.head | apply SetAt.tail)); (case hn => first | exact of_decide_eq_true rfl | (show _ < 4; with_reducible assumption) | (simp; first | done | omega)); (case hl => first | with_reducible assumption | (simp only [nl, kA, kB]; first | done | rfl) | rfl); clear hR; intro w hR) | (refine' wpList_loadAllG hR rfl rfl rfl inferInstance ?hm ?hn ?_; (case hm => first | with_reducible assumption | repeat (first | exact .head _ | with_reducible assumption | apply List.mem_cons_of_mem)); (case hn => first | rfl | (simp; done))) | (refine' wpList_loadCellG hR rfl rfl rfl inferInstance ?hm ?hv ?_; (case hm => first | with_reducible assumption | repeat (first | exact .head _ | with_reducible assumption | apply List.mem_cons_of_mem)); (case hv => first | rfl | with_reducible assumption)) | fail)
      go_ret
      exact ⟨s, rfl, fun _ => hall.out, hR⟩
    · have g1 : (k : Int) < (N : Int) := by omega
      have t1 : decide ((k : Int) < (N : Int)) = true := decide_eq_true g1
      by_cases hsm : s ≤ 1048576
      · have g2 : (s : Int) ≤ 1048576 := by omega
        have t2 : decide ((s : Int) ≤ 1048576) = true := decide_eq_true g2
        obtain ⟨hS, hlen⟩ := h4 k (by omega)
        obtain ⟨a', cap', hV, q1, q2, q3, q4⟩ := hS
        have hx : xss ≠ [] := fun h => by
          have := hN.out
          rw [h] at this
          have : N = 0 := this.symm
          omega
        obtain ⟨bb, off, rfl, h6⟩ := h5 hx
        have hld := cell_load (ty := 38) (h6 w hR k (by omega))
        rw [hV] at hld
        have hstep : s + (xss.getD k []).length = N + totL xss (k + 1) := by rw [totL_succ xss (by have := hN.out; omega), hall]; omega
        clear hV q1 q2 q3 q4 hall
        obtain ⟨s2, hs2⟩ : ∃ x, s + (xss.getD k []).length = x := ⟨_, rfl⟩
        have hs2l : s2 < 1000000000000000 := by omega
        rw [hs2] at hstep
        generalize (xss.getD k []).length = m at *
        have e1 : IntKind.i64.wrap ((s : Int) + (m : Int)) = (s2 : Int) := by rw [IntKind.wrap_i64]; omega
        have e2 : IntKind.i64.wrap ((k : Int) + 1) = (k : Int) + 1 := by rw [IntKind.wrap_i64]; omega
        have ek : ((k + 1 : Nat) : Int) = (k : Int) + 1 := by omega
        replace hstep := Held.mk hstep
        replace hs2 := Held.mk hs2
        replace ek := Held.mk ek
        repeat (first | (obtain ⟨x, tm', e, ht'⟩ := agree_true ht; clear ht; subst e; have ht := ht'; clear ht') | (obtain ⟨tm', e, ht'⟩ := agree_false ht; clear ht; subst e; have ht := ht'; clear ht'))
        obtain rfl := agree_nil ht
        clear ht
        go_wp2_with (first | (refine' wpList_boxRep hR rfl rfl rfl ?_; clear hR; intro blk w hR) | (refine' wpList_allocRep hR rfl rfl inferInstance ?_; clear hR; intro blk w hR) | (refine' wpList_loadAll hR rfl rfl rfl inferInstance ?hm ?hn ?_; (case hm => first | with_reducible assumption | repeat (first | exact .head _ | with_reducible assumption | apply List.mem_cons_of_mem)); (case hn => first | rfl | (simp; done))) | (refine' wpList_loadRow hR rfl rfl rfl inferInstance ?hm ?hv ?hn ?_; (case hm => first | with_reducible assumption | repeat (first | exact .head _ | with_reducible assumption | apply List.mem_cons_of_mem)); (case hv => first | with_reducible assumption | (simp only [kC, kD, kE, kF]; first | done | rfl)); (case hn => first | rfl | (simp; done))) | (refine' wpList_loadCell hR rfl rfl rfl inferInstance ?hm ?hv ?_; (case hm => first | with_reducible assumption | repeat (first | exact .head _ | with_reducible assumption | apply List.mem_cons_of_mem)); (case hv => first | rfl | with_reducible assumption)) | (refine' wpList_storeAll hR rfl rfl rfl inferInstance rfl ?hs ?zone ?zvn ?hn ?_; (case hs => repeat (first | exact SetAt.head | apply SetAt.tail)); (case zone => first | rfl | with_reducible assumption); (case zvn => first | rfl | (simp; done)); (case hn => first | rfl | (simp; done)); clear hR; intro w hR) | (refine' wpList_storeCell hR rfl rfl rfl inferInstance rfl rfl ?hs ?hn ?hl ?_; (case hs => repeat (first | exact SetAt.head | apply SetAt.tail)); (case hn => first | exact of_decide_eq_true rfl | (show _ < 4; with_reducible assumption) | (simp; first | done | omega)); (case hl => first | with_reducible assumption | (simp only [nl, kA, kB]; first | done | rfl) | rfl); clear hR; intro w hR) | (refine' wpList_loadAllG hR rfl rfl rfl inferInstance ?hm ?hn ?_; (case hm => first | with_reducible assumption | repeat (first | exact .head _ | with_reducible assumption | apply List.mem_cons_of_mem)); (case hn => first | rfl | (simp; done))) | (refine' wpList_loadCellG hR rfl rfl rfl inferInstance ?hm ?hv ?_; (case hm => first | with_reducible assumption | repeat (first | exact .head _ | with_reducible assumption | apply List.mem_cons_of_mem)); (case hv => first | rfl | with_reducible assumption)) | (refine' wpList_loadFrom rfl rfl rfl hld ?_) | (go_at_call 48; refine (bytes_size _ _ _ hR).mono ?_; clear hR; rintro e w ⟨rfl, hR⟩))
        exact hK.out ⟨k + 1, s2⟩ _ _ ⟨by show k + 1 ≤ N; omega, hs2l, hstep.out⟩ (by show N - (k + 1) < N - k; omega) (by simp only [ek.out]; exact agree_of rfl rfl rfl) hR
      · have g2 : ¬ (s : Int) ≤ 1048576 := by omega
        have g3 : (1048576 : Int) < (s : Int) := by omega
        have t2 : decide ((s : Int) ≤ 1048576) = false := decide_eq_false g2
        clear hK
        replace hall := Held.mk hall
        replace hsm := Held.mk hsm
        repeat (first | (obtain ⟨x, tm', e, ht'⟩ := agree_true ht; clear ht; subst e; have ht := ht'; clear ht') | (obtain ⟨tm', e, ht'⟩ := agree_false ht; clear ht; subst e; have ht := ht'; clear ht'))
        obtain rfl := agree_nil ht
        clear ht
        go_wp2_with (first | (refine' wpList_boxRep hR rfl rfl rfl ?_; clear hR; intro blk w hR) | (refine' wpList_allocRep hR rfl rfl inferInstance ?_; clear hR; intro blk w hR) | (refine' wpList_loadAll hR rfl rfl rfl inferInstance ?hm ?hn ?_; (case hm => first | with_reducible assumption | repeat (first | exact .head _ | with_reducible assumption | apply List.mem_cons_of_mem)); (case hn => first | rfl | (simp; done))) | (refine' wpList_loadRow hR rfl rfl rfl inferInstance ?hm ?hv ?hn ?_; (case hm => first | with_reducible assumption | repeat (first | exact .head _ | with_reducible assumption | apply List.mem_cons_of_mem)); (case hv => first | with_reducible assumption | (simp only [kC, kD, kE, kF]; first | done | rfl)); (case hn => first | rfl | (simp; done))) | (refine' wpList_loadCell hR rfl rfl rfl inferInstance ?hm ?hv ?_; (case hm => first | with_reducible assumption | repeat (first | exact .head _ | with_reducible assumption | apply List.mem_cons_of_mem)); (case hv => first | rfl | with_reducible assumption)) | (refine' wpList_storeAll hR rfl rfl rfl inferInstance rfl ?hs ?zone ?zvn ?hn ?_; (case hs => repeat (first | exact SetAt.head | apply SetAt.tail)); (case zone => first | rfl | with_reducible assumption); (case zvn => first | rfl | (simp; done)); (case hn => first | rfl | (simp; done)); clear hR; intro w hR) | (refine' wpList_storeCell hR rfl rfl rfl inferInstance rfl rfl ?hs ?hn ?hl ?_; (case hs => repeat (first | exact SetAt.head | apply SetAt.tail)); (case hn => first | exact of_decide_eq_true rfl | (show _ < 4; with_reducible assumption) | (simp; first | done | omega)); (case hl => first | with_reducible assumption | (simp only [nl, kA, kB]; first | done | rfl) | rfl); clear hR; intro w hR) | (refine' wpList_loadAllG hR rfl rfl rfl inferInstance ?hm ?hn ?_; (case hm => first | with_reducible assumption | repeat (first | exact .head _ | with_reducible assumption | apply List.mem_cons_of_mem)); (case hn => first | rfl | (simp; done))) | (refine' wpList_loadCellG hR rfl rfl rfl inferInstance ?hm ?hv ?_; (case hm => first | with_reducible assumption | repeat (first | exact .head _ | with_reducible assumption | apply List.mem_cons_of_mem)); (case hv => first | rfl | with_reducible assumption)) | fail)
        go_ret
        exact ⟨s, rfl, fun h => absurd h hsm.out, hR⟩
/-- What great tells. -/
def GreatOut (B0 : Nat) (w0 : World) (L : List (Nat × Obj)) (n : Nat) (xss : List (List Nat)) (e : Ending) (w' : World) : Prop := ∃ b : Bool, e = .returned (.bool b) ∧ (b = false → n ≤ 5000 ∧ xss.length ≤ 200 ∧ xss.length + totL xss xss.length ≤ 20000) ∧ Rep B0 w0 L w'
set_option maxRecDepth 100000 in
set_option maxHeartbeats 4000000 in
theorem great_any (s : ByteArray) (v : Value) (xss : List (List Nat)) (hv : RowsOf B0 w0 L v xss) (hR : Rep B0 w0 L w) :
    Calls Try.prog 7 #[.string s, v] w fun e w' => GreatOut B0 w0 L s.size xss e w' := by
  have hv0 := hv
  obtain ⟨a, cp, V, rfl, h1, h2, h4, h5⟩ := hv
  obtain ⟨N, hN⟩ : ∃ N, xss.length = N := ⟨_, rfl⟩
  rw [hN] at hv0 h1 ⊢
  by_cases hs : 5000 < s.size
  · have g1 : decide ((5000 : Int) < (s.size : Int)) = true := decide_eq_true (by omega)
    have g1' : (5000 : Int) < (s.size : Int) := by omega
    clear h4 h5 hv0
    go_enter Try.func7, Try.ntmps7
    go_wp2_with (first | (refine' wpList_boxRep hR rfl rfl rfl ?_; clear hR; intro blk w hR) | (refine' wpList_allocRep hR rfl rfl inferInstance ?_; clear hR; intro blk w hR) | (refine' wpList_loadAll hR rfl rfl rfl inferInstance ?hm ?hn ?_; (case hm => first | with_reducible assumption | repeat (first | exact .head _ | with_reducible assumption | apply List.mem_cons_of_mem)); (case hn => first | rfl | (simp; done))) | (refine' wpList_loadRow hR rfl rfl rfl inferInstance ?hm ?hv ?hn ?_; (case hm => first | with_reducible assumption | repeat (first | exact .head _ | with_reducible assumption | apply List.mem_cons_of_mem)); (case hv => first | with_reducible assumption | (simp only [kC, kD, kE, kF]; first | done | rfl)); (case hn => first | rfl | (simp; done))) | (refine' wpList_loadCell hR rfl rfl rfl inferInstance ?hm ?hv ?_; (case hm => first | with_reducible assumption | repeat (first | exact .head _ | with_reducible assumption | apply List.mem_cons_of_mem)); (case hv => first | rfl | with_reducible assumption)) | (refine' wpList_storeAll hR rfl rfl rfl inferInstance rfl ?hs ?zone ?zvn ?hn ?_; (case hs => repeat (first | exact SetAt.head | apply SetAt.tail)); (case zone => first | rfl | with_reducible assumption); (case zvn => first | rfl | (simp; done)); (case hn => first | rfl | (simp; done)); clear hR; intro w hR) | (refine' wpList_storeCell hR rfl rfl rfl inferInstance rfl rfl ?hs ?hn ?hl ?_; (case hs => repeat (first | exact SetAt.head | apply SetAt.tail)); (case hn => first | exact of_decide_eq_true rfl | (show _ < 4; with_reducible assumption) | (simp; first | done | omega)); (case hl => first | with_reducible assumption | (simp only [nl, kA, kB]; first | done | rfl) | rfl); clear hR; intro w hR) | (refine' wpList_loadAllG hR rfl rfl rfl inferInstance ?hm ?hn ?_; (case hm => first | with_reducible assumption | repeat (first | exact .head _ | with_reducible assumption | apply List.mem_cons_of_mem)); (case hn => first | rfl | (simp; done))) | (refine' wpList_loadCellG hR rfl rfl rfl inferInstance ?hm ?hv ?_; (case hm => first | with_reducible assumption | repeat (first | exact .head _ | with_reducible assumption | apply List.mem_cons_of_mem)); (case hv => first | rfl | with_reducible assumption)) | fail)
    go_ret
    exact ⟨true, rfl, fun h => (by cases h), hR⟩
  have g1 : decide ((5000 : Int) < (s.size : Int)) = false := decide_eq_false (by omega)
  have g1' : ¬ (5000 : Int) < (s.size : Int) := by omega
  by_cases h200 : 200 < N
  · have g2 : decide ((200 : Int) < (N : Int)) = true := decide_eq_true (by omega)
    have g2' : (200 : Int) < (N : Int) := by omega
    clear h4 h5 hv0
    go_enter Try.func7, Try.ntmps7
    go_wp2_with (first | (refine' wpList_boxRep hR rfl rfl rfl ?_; clear hR; intro blk w hR) | (refine' wpList_allocRep hR rfl rfl inferInstance ?_; clear hR; intro blk w hR) | (refine' wpList_loadAll hR rfl rfl rfl inferInstance ?hm ?hn ?_; (case hm => first | with_reducible assumption | repeat (first | exact .head _ | with_reducible assumption | apply List.mem_cons_of_mem)); (case hn => first | rfl | (simp; done))) | (refine' wpList_loadRow hR rfl rfl rfl inferInstance ?hm ?hv ?hn ?_; (case hm => first | with_reducible assumption | repeat (first | exact .head _ | with_reducible assumption | apply List.mem_cons_of_mem)); (case hv => first | with_reducible assumption | (simp only [kC, kD, kE, kF]; first | done | rfl)); (case hn => first | rfl | (simp; done))) | (refine' wpList_loadCell hR rfl rfl rfl inferInstance ?hm ?hv ?_; (case hm => first | with_reducible assumption | repeat (first | exact .head _ | with_reducible assumption | apply List.mem_cons_of_mem)); (case hv => first | rfl | with_reducible assumption)) | (refine' wpList_storeAll hR rfl rfl rfl inferInstance rfl ?hs ?zone ?zvn ?hn ?_; (case hs => repeat (first | exact SetAt.head | apply SetAt.tail)); (case zone => first | rfl | with_reducible assumption); (case zvn => first | rfl | (simp; done)); (case hn => first | rfl | (simp; done)); clear hR; intro w hR) | (refine' wpList_storeCell hR rfl rfl rfl inferInstance rfl rfl ?hs ?hn ?hl ?_; (case hs => repeat (first | exact SetAt.head | apply SetAt.tail)); (case hn => first | exact of_decide_eq_true rfl | (show _ < 4; with_reducible assumption) | (simp; first | done | omega)); (case hl => first | with_reducible assumption | (simp only [nl, kA, kB]; first | done | rfl) | rfl); clear hR; intro w hR) | (refine' wpList_loadAllG hR rfl rfl rfl inferInstance ?hm ?hn ?_; (case hm => first | with_reducible assumption | repeat (first | exact .head _ | with_reducible assumption | apply List.mem_cons_of_mem)); (case hn => first | rfl | (simp; done))) | (refine' wpList_loadCellG hR rfl rfl rfl inferInstance ?hm ?hv ?_; (case hm => first | with_reducible assumption | repeat (first | exact .head _ | with_reducible assumption | apply List.mem_cons_of_mem)); (case hv => first | rfl | with_reducible assumption)) | fail)
    go_ret
    exact ⟨true, rfl, fun h => (by cases h), hR⟩
  have g2 : decide ((200 : Int) < (N : Int)) = false := decide_eq_false (by omega)
  have g2' : ¬ (200 : Int) < (N : Int) := by omega
  have cr := fun (w : World) (hR : Rep B0 w0 L w) => records_sum (w := w) _ xss (by omega) hv0 hR
  rw [hN] at cr
  clear h4 h5 hv0 h1 h2
  replace hs := Held.mk hs
  replace h200 := Held.mk h200
  replace hN := Held.mk hN
  go_enter Try.func7, Try.ntmps7
  go_wp2_with (first | (refine' wpList_boxRep hR rfl rfl rfl ?_; clear hR; intro blk w hR) | (refine' wpList_allocRep hR rfl rfl inferInstance ?_; clear hR; intro blk w hR) | (refine' wpList_loadAll hR rfl rfl rfl inferInstance ?hm ?hn ?_; (case hm => first | with_reducible assumption | repeat (first | exact .head _ | with_reducible assumption | apply List.mem_cons_of_mem)); (case hn => first | rfl | (simp; done))) | (refine' wpList_loadRow hR rfl rfl rfl inferInstance ?hm ?hv ?hn ?_; (case hm => first | with_reducible assumption | repeat (first | exact .head _ | with_reducible assumption | apply List.mem_cons_of_mem)); (case hv => first | with_reducible assumption | (simp only [kC, kD, kE, kF]; first | done | rfl)); (case hn => first | rfl | (simp; done))) | (refine' wpList_loadCell hR rfl rfl rfl inferInstance ?hm ?hv ?_; (case hm => first | with_reducible assumption | repeat (first | exact .head _ | with_reducible assumption | apply List.mem_cons_of_mem)); (case hv => first | rfl | with_reducible assumption)) | (refine' wpList_storeAll hR rfl rfl rfl inferInstance rfl ?hs ?zone ?zvn ?hn ?_; (case hs => repeat (first | exact SetAt.head | apply SetAt.tail)); (case zone => first | rfl | with_reducible assumption); (case zvn => first | rfl | (simp; done)); (case hn => first | rfl | (simp; done)); clear hR; intro w hR) | (refine' wpList_storeCell hR rfl rfl rfl inferInstance rfl rfl ?hs ?hn ?hl ?_; (case hs => repeat (first | exact SetAt.head | apply SetAt.tail)); (case hn => first | exact of_decide_eq_true rfl | (show _ < 4; with_reducible assumption) | (simp; first | done | omega)); (case hl => first | with_reducible assumption | (simp only [nl, kA, kB]; first | done | rfl) | rfl); clear hR; intro w hR) | (refine' wpList_loadAllG hR rfl rfl rfl inferInstance ?hm ?hn ?_; (case hm => first | with_reducible assumption | repeat (first | exact .head _ | with_reducible assumption | apply List.mem_cons_of_mem)); (case hn => first | rfl | (simp; done))) | (refine' wpList_loadCellG hR rfl rfl rfl inferInstance ?hm ?hv ?_; (case hm => first | with_reducible assumption | repeat (first | exact .head _ | with_reducible assumption | apply List.mem_cons_of_mem)); (case hv => first | rfl | with_reducible assumption)) | (go_at_call 25; refine (cr _ hR).mono ?_; clear hR cr; rintro e w ⟨k, rfl, hk, hR⟩; replace hk := Held.mk hk))
  go_ret
  refine ⟨decide ((20000 : Int) < (k : Int)), rfl, fun h => ?_, hR⟩
  have h' : ¬ (20000 : Int) < (k : Int) := of_decide_eq_false h
  have := hk.out (by omega)
  rw [hN.out]
  exact ⟨by have := hs.out; omega, by have := h200.out; omega, by omega⟩
end
end Go.Proofs.Ytlkjbkdnfmbcnaa
/- The contracts of bytes of balefirelaw06, of SameBytes and SameRecords. -/
set_option linter.unusedSimpArgs false
set_option linter.unusedVariables false
namespace Go.Proofs.Ytlkjbkdnfmbcnaa
open Go.RowKit
attribute [local irreducible] Calls
section
variable {B0 : Nat} {w0 w : World} {L : List (Nat × Obj)}
set_option maxRecDepth 100000 in
set_option maxHeartbeats 8000000 in
theorem bytes_of (s : ByteArray) (v : Value) (xss : List (List Nat)) (hs : s.size ≤ 100000) (h200 : xss.length ≤ 1000) (htot : totL xss xss.length ≤ 1000000) (hv : RowsOf B0 w0 L v xss) (hR : Rep B0 w0 L w) :
    Calls Try.prog 15 #[.string s, v] w fun e w' => Fresh B0 w0 L e w' (encB (strB s) xss) := by
  obtain ⟨a, cp, V, rfl, h1, h2, h4, h5⟩ := hv
  obtain ⟨N, hN⟩ : ∃ N, xss.length = N := ⟨_, rfl⟩
  have hpart : ∀ j, j < N → (xss.getD j []).length ≤ 1000000 := fun j hj => by
    have := totL_part xss (j := j) (by omega)
    omega
  have ele : ∀ i, i ≤ N → (encR xss i).length ≤ 1010000 := fun i hi => by
    rw [encR_tot xss i (by omega)]
    have := totL_mono xss i xss.length (by omega) (Nat.le_refl _)
    omega
  rw [hN] at h1 h200 h4 h5 ⊢
  have fN : IntKind.u64.wrap (N : Int) = (N : Int) := by rw [IntKind.wrap_u64]; omega
  have enc : encB (strB s) xss = encH (strB s) N ++ encR xss N := by unfold encB; rw [hN]
  have hle : (encH (strB s) N).length ≤ 200000 := by unfold encH; rw [List.length_append, List.length_append, beL_length, beL_length, strB_length]; omega
  obtain ⟨ys1, hy1⟩ : ∃ ys, [] ++ beL 4 (strB s).length ++ strB s = ys := ⟨_, rfl⟩
  have cp1 := fun (L' : List (Nat × Obj)) (v' : Value) (w' : World) (hv : SliceOf B0 w0 L' v' (strB s)) (hR : Rep B0 w0 L' w') => put_bytes (.slice none 0 0) v' [] (strB s) (by rw [strB_length]; simp; omega) sliceOf_nil hv hR
  rw [hy1] at cp1
  have l1 : ys1.length ≤ 200000 := by rw [← hy1, List.length_append, List.length_append, beL_length, strB_length]; simp; omega
  have hm2 : ys1 ++ beL 4 N = encH (strB s) N := by rw [← hy1]; unfold encH; simp
  have cp2 := fun (g cap : Nat) (cur : List Value) (L' : List (Nat × Obj)) (w' : World) (ho : OwnOk cap cur ys1) (hR : Rep B0 w0 ((g, .cells cur.toArray 5) :: L') w') => put_word _ ys1 N (by omega) (by omega) (own_slice ho) hR
  rw [hm2] at cp2
  obtain ⟨m2, hm⟩ : ∃ m, encH (strB s) N = m := ⟨_, rfl⟩
  rw [hm] at cp2 hle enc
  rw [enc]
  replace hN := Held.mk hN
  replace h4 := Held.mk h4
  replace h5 := Held.mk h5
  replace hpart := Held.mk hpart
  clear hy1 l1 hm2 hm enc
  go_enter Try.func15, Try.ntmps15
  go_wp2_with (first | (refine' wpList_boxRep hR rfl rfl rfl ?_; clear hR; intro blk w hR) | (refine' wpList_allocRep hR rfl rfl inferInstance ?_; clear hR; intro blk w hR) | (refine' wpList_loadAll hR rfl rfl rfl inferInstance ?hm ?hn ?_; (case hm => first | with_reducible assumption | repeat (first | exact .head _ | with_reducible assumption | apply List.mem_cons_of_mem)); (case hn => first | rfl | (simp; done))) | (refine' wpList_loadRow hR rfl rfl rfl inferInstance ?hm ?hv ?hn ?_; (case hm => first | with_reducible assumption | repeat (first | exact .head _ | with_reducible assumption | apply List.mem_cons_of_mem)); (case hv => first | with_reducible assumption | (simp only [kC, kD, kE, kF]; first | done | rfl)); (case hn => first | rfl | (simp; done))) | (refine' wpList_loadCell hR rfl rfl rfl inferInstance ?hm ?hv ?_; (case hm => first | with_reducible assumption | repeat (first | exact .head _ | with_reducible assumption | apply List.mem_cons_of_mem)); (case hv => first | rfl | with_reducible assumption)) | (refine' wpList_storeAll hR rfl rfl rfl inferInstance rfl ?hs ?zone ?zvn ?hn ?_; (case hs => repeat (first | exact SetAt.head | apply SetAt.tail)); (case zone => first | rfl | with_reducible assumption); (case zvn => first | rfl | (simp; done)); (case hn => first | rfl | (simp; done)); clear hR; intro w hR) | (refine' wpList_storeCell hR rfl rfl rfl inferInstance rfl rfl ?hs ?hn ?hl ?_; (case hs => repeat (first | exact SetAt.head | apply SetAt.tail)); (case hn => first | exact of_decide_eq_true rfl | (show _ < 4; with_reducible assumption) | (simp; first | done | omega)); (case hl => first | with_reducible assumption | (simp only [nl, kA, kB]; first | done | rfl) | rfl); clear hR; intro w hR) | (refine' wpList_strBytes hR rfl rfl rfl (by omega) ?_; clear hR; intro cb cap0 arr fz w hS hR; replace hS := Held.mk hS) | (go_at_call 33; refine (cp1 _ _ _ (hS.out _ (.head _)) hR).mono ?_; clear hR hS cp1; rintro e w ⟨g, cap, rfl, cur, ho, hR⟩; replace ho := Held.mk ho; replace hR := hR.weaken ((List.sublist_cons_self _ _).cons_cons _)) | (go_at_call 34; refine (cp2 _ _ _ _ _ ho.out hR).mono ?_; clear hR cp2 ho; rintro e w ⟨g, cap, rfl, cur, ho, hR⟩; replace ho := Held.mk ho; replace hR := hR.weaken ((List.sublist_cons_self _ _).cons_cons _)))
  refine' loop_while (false :: false :: false :: false :: false :: false :: false :: false :: false :: false :: false :: false :: false :: false :: true :: true :: true :: true :: true :: true :: true :: true :: true :: true :: true :: true :: false :: []) (fun (x : Buf) l => (l.set 5 (.slice (some ⟨x.g, 0, none⟩) (m2 ++ encR xss x.i).length x.cap)).set 6 (.int .i64 (x.i : Int))) (fun x => (x.g, .cells x.cur.toArray 5) :: L) (fun x => N - x.i) (fun x => x.i ≤ N ∧ OwnOk x.cap x.cur (m2 ++ encR xss x.i)) ⟨0, g, cap, cur⟩ ?h0 ?hO ?hR ?hs
  case h0 =>
    simp only [encR_zero, List.append_nil]
    exact agree_of rfl rfl rfl
  case hO => exact ⟨Nat.zero_le _, by show OwnOk cap cur (m2 ++ encR xss 0); rw [encR_zero, List.append_nil]; exact ho.out⟩
  case hR => exact hR
  case hs =>
    clear hR ho
    intro x tm w hO ht hR K hK
    obtain ⟨i, g, cap, cur⟩ := x
    obtain ⟨hi, ho⟩ := hO
    simp only at hi ho ht hR
    have g0 : 0 ≤ (i : Int) := by omega
    have hli := ele i hi
    by_cases hiN : i = N
    · have hiN' := hiN.symm
      clear hiN
      subst hiN'
      clear hK
      have t1 : ¬ (N : Int) < (N : Int) := by omega
      generalize hmm : m2 ++ encR xss N = m at *
      replace hmm := Held.mk hmm
      clear ele hli hi
      replace ho := Held.mk ho
      repeat (first | (obtain ⟨x, tm', e, ht'⟩ := agree_true ht; clear ht; subst e; have ht := ht'; clear ht') | (obtain ⟨tm', e, ht'⟩ := agree_false ht; clear ht; subst e; have ht := ht'; clear ht'))
      obtain rfl := agree_nil ht
      clear ht
      go_wp2_with (first | (refine' wpList_boxRep hR rfl rfl rfl ?_; clear hR; intro blk w hR) | (refine' wpList_allocRep hR rfl rfl inferInstance ?_; clear hR; intro blk w hR) | (refine' wpList_loadAll hR rfl rfl rfl inferInstance ?hm ?hn ?_; (case hm => first | with_reducible assumption | repeat (first | exact .head _ | with_reducible assumption | apply List.mem_cons_of_mem)); (case hn => first | rfl | (simp; done))) | (refine' wpList_loadRow hR rfl rfl rfl inferInstance ?hm ?hv ?hn ?_; (case hm => first | with_reducible assumption | repeat (first | exact .head _ | with_reducible assumption | apply List.mem_cons_of_mem)); (case hv => first | with_reducible assumption | (simp only [kC, kD, kE, kF]; first | done | rfl)); (case hn => first | rfl | (simp; done))) | (refine' wpList_loadCell hR rfl rfl rfl inferInstance ?hm ?hv ?_; (case hm => first | with_reducible assumption | repeat (first | exact .head _ | with_reducible assumption | apply List.mem_cons_of_mem)); (case hv => first | rfl | with_reducible assumption)) | (refine' wpList_storeAll hR rfl rfl rfl inferInstance rfl ?hs ?zone ?zvn ?hn ?_; (case hs => repeat (first | exact SetAt.head | apply SetAt.tail)); (case zone => first | rfl | with_reducible assumption); (case zvn => first | rfl | (simp; done)); (case hn => first | rfl | (simp; done)); clear hR; intro w hR) | (refine' wpList_storeCell hR rfl rfl rfl inferInstance rfl rfl ?hs ?hn ?hl ?_; (case hs => repeat (first | exact SetAt.head | apply SetAt.tail)); (case hn => first | exact of_decide_eq_true rfl | (show _ < 4; with_reducible assumption) | (simp; first | done | omega)); (case hl => first | with_reducible assumption | (simp only [nl, kA, kB]; first | done | rfl) | rfl); clear hR; intro w hR) | fail)
      go_ret
      exact ⟨g, cap, by rw [hmm.out]; rfl, cur, by rw [hmm.out]; exact ho.out, hR⟩
    · have g1 : (i : Int) < (N : Int) := by omega
      obtain ⟨hS, hlen⟩ := h4.out i (by omega)
      have hx : xss ≠ [] := fun h => by
        have := hN.out
        rw [h] at this
        have : N = 0 := this.symm
        omega
      obtain ⟨bb, off, rfl, h6⟩ := h5.out hx
      have hld := cell_load (ty := 38) (h6 w hR.drop1 i (by omega))
      have hbi := hpart.out i (by omega)
      have es := encR_succ xss (i := i) (by have := hN.out; omega)
      generalize V i = vi at *
      generalize hxs : xss.getD i [] = xs at *
      have hlm : (m2 ++ encR xss i).length ≤ 1300000 := by rw [List.length_append]; omega
      have ei : IntKind.i64.wrap ((i : Int) + 1) = ((i + 1 : Nat) : Int) := by rw [IntKind.wrap_i64]; omega
      have em : m2 ++ encR xss (i + 1) = (m2 ++ encR xss i) ++ beL 4 xs.length ++ xs := by rw [es]; simp
      generalize m2 ++ encR xss i = m at *
      have cb := fun (w' : World) (hR : Rep B0 w0 ((g, .cells cur.toArray 5) :: L) w') => put_bytes _ vi m xs (by omega) (own_slice ho) hS.more hR
      rw [← em] at cb
      generalize hm3 : m2 ++ encR xss (i + 1) = m3 at *
      replace hm3 := Held.mk hm3
      have hi1 : i + 1 ≤ N := by omega
      have hmu : N - (i + 1) < N - i := by omega
      replace hi1 := Held.mk hi1
      replace hmu := Held.mk hmu
      clear h6 hS hlm es ele hli hi hxs ho em
      repeat (first | (obtain ⟨x, tm', e, ht'⟩ := agree_true ht; clear ht; subst e; have ht := ht'; clear ht') | (obtain ⟨tm', e, ht'⟩ := agree_false ht; clear ht; subst e; have ht := ht'; clear ht'))
      obtain rfl := agree_nil ht
      clear ht
      go_wp2_with (first | (refine' wpList_boxRep hR rfl rfl rfl ?_; clear hR; intro blk w hR) | (refine' wpList_allocRep hR rfl rfl inferInstance ?_; clear hR; intro blk w hR) | (refine' wpList_loadAll hR rfl rfl rfl inferInstance ?hm ?hn ?_; (case hm => first | with_reducible assumption | repeat (first | exact .head _ | with_reducible assumption | apply List.mem_cons_of_mem)); (case hn => first | rfl | (simp; done))) | (refine' wpList_loadRow hR rfl rfl rfl inferInstance ?hm ?hv ?hn ?_; (case hm => first | with_reducible assumption | repeat (first | exact .head _ | with_reducible assumption | apply List.mem_cons_of_mem)); (case hv => first | with_reducible assumption | (simp only [kC, kD, kE, kF]; first | done | rfl)); (case hn => first | rfl | (simp; done))) | (refine' wpList_loadCell hR rfl rfl rfl inferInstance ?hm ?hv ?_; (case hm => first | with_reducible assumption | repeat (first | exact .head _ | with_reducible assumption | apply List.mem_cons_of_mem)); (case hv => first | rfl | with_reducible assumption)) | (refine' wpList_storeAll hR rfl rfl rfl inferInstance rfl ?hs ?zone ?zvn ?hn ?_; (case hs => repeat (first | exact SetAt.head | apply SetAt.tail)); (case zone => first | rfl | with_reducible assumption); (case zvn => first | rfl | (simp; done)); (case hn => first | rfl | (simp; done)); clear hR; intro w hR) | (refine' wpList_storeCell hR rfl rfl rfl inferInstance rfl rfl ?hs ?hn ?hl ?_; (case hs => repeat (first | exact SetAt.head | apply SetAt.tail)); (case hn => first | exact of_decide_eq_true rfl | (show _ < 4; with_reducible assumption) | (simp; first | done | omega)); (case hl => first | with_reducible assumption | (simp only [nl, kA, kB]; first | done | rfl) | rfl); clear hR; intro w hR) | (refine' wpList_loadFrom rfl rfl rfl hld ?_) | (go_at_call 33; refine (cb _ hR).mono ?_; clear hR cb; rintro e w ⟨g2, cap2, rfl, cur2, ho, hR⟩; replace ho := Held.mk ho; replace hR := hR.weaken ((List.sublist_cons_self _ _).cons_cons _)))
      refine hK.out ⟨i + 1, g2, cap2, cur2⟩ _ _ ⟨hi1.out, ?_⟩ hmu.out ?_ hR
      · show OwnOk cap2 cur2 (m2 ++ encR xss (i + 1))
        rw [hm3.out]; exact ho.out
      · simp only [hm3.out]
        exact agree_of rfl rfl rfl
end
end Go.Proofs.Ytlkjbkdnfmbcnaa
