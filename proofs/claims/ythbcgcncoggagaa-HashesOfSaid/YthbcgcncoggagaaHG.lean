/- The contracts of RecordsSize (the sum) and of great of balefirelaw06. -/
import Derived.Test.YthbcgcncoggagaaHF
set_option linter.unusedVariables false
set_option linter.unusedSimpArgs false
namespace Go.Proofs.Ythbcgcncoggagaa
open Go.RowKit
attribute [local irreducible] Calls
def totL (xss : List (List Nat)) (i : Nat) : Nat := ((xss.take i).map List.length).sum
theorem totL_succ (xss : List (List Nat)) {i : Nat} (h : i < xss.length) : totL xss (i + 1) = totL xss i + (xss.getD i []).length := by
  unfold totL
  rw [List.take_add_one, List.getElem?_eq_getElem h, List.getD_eq_getElem?_getD, List.getElem?_eq_getElem h, List.map_append, List.sum_append]
  simp
theorem totL_mono (xss : List (List Nat)) : ∀ (i j : Nat), i ≤ j → j ≤ xss.length → totL xss i ≤ totL xss j
  | i, 0, h, _ => by obtain rfl : i = 0 := by omega
                     exact Nat.le_refl _
  | i, j + 1, h, hj => by
    by_cases e : i = j + 1
    · rw [e]; exact Nat.le_refl _
    · have := totL_mono xss i j (by omega) (by omega)
      rw [totL_succ xss (by omega)]; omega
theorem totL_part (xss : List (List Nat)) {j : Nat} (h : j < xss.length) : (xss.getD j []).length ≤ totL xss xss.length := by
  have := totL_mono xss (j + 1) xss.length (by omega) (Nat.le_refl _)
  rw [totL_succ xss h] at this
  omega
theorem encR_tot (xss : List (List Nat)) : ∀ i, i ≤ xss.length → (encR xss i).length = 4 * i + totL xss i
  | 0, _ => rfl
  | i + 1, h => by
    rw [encR_succ xss (by omega), totL_succ xss (by omega), List.length_append, List.length_append, xBn, encR_tot xss i (by omega)]
    omega
section
variable {B0 : Nat} {w0 w : World} {L : List (Nat × Obj)}
set_option maxRecDepth 100000 in
set_option maxHeartbeats 4000000 in
theorem records_sum (v : Value) (xss : List (List Nat)) (h60 : xss.length ≤ 1000) (hv : RowsOf B0 w0 L v xss) (hR : Rep B0 w0 L w) :
    Calls Try.prog 58 #[v] w fun e w' => ∃ s : Nat, e = .returned (.int .i64 (s : Int)) ∧ (s ≤ 1048576 → s = xss.length + totL xss xss.length) ∧ Rep B0 w0 L w' := by
  obtain ⟨a, cp, V, hva, h1, h2, h4, h5⟩ := hv
  obtain ⟨N, hN⟩ : ∃ N, xss.length = N := ⟨_, rfl⟩
  rw [hN] at hva h1 h60 h5 h4 ⊢
  subst hva
  have hr : reachBytes = 140737488351232 := rfl
  replace hN := Held.mk hN
  go_enter Try.func58, Try.ntmps58
  go_wp2_with (first | (refine' xAg hR rfl rfl rfl ?_; clear hR; intro blk w hR) | (refine' xAc hR rfl rfl inferInstance ?_; clear hR; intro blk w hR) | (refine' xAf hR rfl rfl rfl inferInstance ?hm ?hn ?_; (case hm => first | with_reducible assumption | repeat (first | exact .head _ | with_reducible assumption | apply mC)); (case hn => first | rfl | simp)) | (refine' xAe hR rfl rfl rfl inferInstance ?hm ?hv ?hn ?_; (case hm => first | with_reducible assumption | repeat (first | exact .head _ | with_reducible assumption | apply mC)); (case hv => first | with_reducible assumption | (simp only [kC, kD, kE, kF]; try rfl)); (case hn => first | rfl | simp)) | (refine' xAd hR rfl rfl rfl inferInstance ?hm ?hv ?_; (case hm => first | with_reducible assumption | repeat (first | exact .head _ | with_reducible assumption | apply mC)); (case hv => first | rfl | with_reducible assumption)) | (refine' xAb hR rfl rfl rfl inferInstance rfl ?hs ?zone ?zvn ?hn ?_; (case hs => repeat (first | exact xAh.head | apply xAh.tail)); (case zone => first | rfl | with_reducible assumption); (case zvn => first | rfl | simp); (case hn => first | rfl | simp); clear hR; intro w hR) | (refine' xAa hR rfl rfl rfl inferInstance rfl rfl ?hs ?hn ?hl ?_; (case hs => repeat (first | exact xAh.head | apply xAh.tail)); (case hn => first | exact oD rfl | (show _ < 4; with_reducible assumption) | (simp; try omega)); (case hl => first | with_reducible assumption | (simp only [nl, kA, kB]; first | done | rfl) | rfl); clear hR; intro w hR) | fail)
  refine' xBr (false :: false :: false :: false :: false :: false :: false :: true :: true :: true :: true :: true :: true :: true :: true :: true :: true :: true :: true :: true :: true :: true :: true :: true :: false :: []) (fun (x : Cnt) l => (l.set 3 (.int .i64 (x.s : Int))).set 4 (.int .i64 (x.i : Int))) (fun x => L) (fun x => N - x.i) (fun x => x.i ≤ N ∧ x.s < 1000000000000000 ∧ x.s = N + totL xss x.i) ⟨0, N⟩ ?h0 ?hO ?hR ?hs
  case h0 => exact xAl rfl rfl rfl
  case hO => exact ⟨Nat.zero_le _, by show N < _; omega, rfl⟩
  case hR => exact hR
  case hs =>
    clear hR
    intro x tm w hO ht hR K hK
    obtain ⟨k, s⟩ := x
    obtain ⟨hk, hs, hall⟩ := hO
    simp only at hk hs hall ht hR
    have g0 : 0 ≤ (k : Int) := by omega
    by_cases hkn : k = N
    · subst hkn
      clear hK
      have t1 : decide ((k : Int) < (k : Int)) = false := decide_eq_false (by omega)
      have t2 : ¬ (k : Int) < (k : Int) := by omega
      replace hall := Held.mk hall
      repeat (first | (obtain ⟨x, tm', e, ht'⟩ := xAj ht; clear ht; subst e; have ht := ht'; clear ht') | (obtain ⟨tm', e, ht'⟩ := xAi ht; clear ht; subst e; have ht := ht'; clear ht'))
      obtain rfl := xAk ht
      clear ht
      go_wp2_with (first | (refine' xAg hR rfl rfl rfl ?_; clear hR; intro blk w hR) | (refine' xAc hR rfl rfl inferInstance ?_; clear hR; intro blk w hR) | (refine' xAf hR rfl rfl rfl inferInstance ?hm ?hn ?_; (case hm => first | with_reducible assumption | repeat (first | exact .head _ | with_reducible assumption | apply mC)); (case hn => first | rfl | simp)) | (refine' xAe hR rfl rfl rfl inferInstance ?hm ?hv ?hn ?_; (case hm => first | with_reducible assumption | repeat (first | exact .head _ | with_reducible assumption | apply mC)); (case hv => first | with_reducible assumption | (simp only [kC, kD, kE, kF]; try rfl)); (case hn => first | rfl | simp)) | (refine' xAd hR rfl rfl rfl inferInstance ?hm ?hv ?_; (case hm => first | with_reducible assumption | repeat (first | exact .head _ | with_reducible assumption | apply mC)); (case hv => first | rfl | with_reducible assumption)) | (refine' xAb hR rfl rfl rfl inferInstance rfl ?hs ?zone ?zvn ?hn ?_; (case hs => repeat (first | exact xAh.head | apply xAh.tail)); (case zone => first | rfl | with_reducible assumption); (case zvn => first | rfl | simp); (case hn => first | rfl | simp); clear hR; intro w hR) | (refine' xAa hR rfl rfl rfl inferInstance rfl rfl ?hs ?hn ?hl ?_; (case hs => repeat (first | exact xAh.head | apply xAh.tail)); (case hn => first | exact oD rfl | (show _ < 4; with_reducible assumption) | (simp; try omega)); (case hl => first | with_reducible assumption | (simp only [nl, kA, kB]; first | done | rfl) | rfl); clear hR; intro w hR) | (refine' xAp hR rfl rfl rfl inferInstance ?hm ?hn ?_; (case hm => first | with_reducible assumption | repeat (first | exact .head _ | with_reducible assumption | apply mC)); (case hn => first | rfl | simp)) | (refine' xAm hR rfl rfl rfl inferInstance ?hm ?hv ?_; (case hm => first | with_reducible assumption | repeat (first | exact .head _ | with_reducible assumption | apply mC)); (case hv => first | rfl | with_reducible assumption)) | fail)
      go_ret
      exact ⟨s, rfl, fun _ => hall.out, hR⟩
    · have g1 : (k : Int) < (N : Int) := by omega
      have t1 : decide ((k : Int) < (N : Int)) = true := decide_eq_true g1
      by_cases hsm : s ≤ 1048576
      · have g2 : (s : Int) ≤ 1048576 := by omega
        have t2 : decide ((s : Int) ≤ 1048576) = true := decide_eq_true g2
        obtain ⟨hS, hlen⟩ := h4 k (by omega)
        obtain ⟨a', cap', hV, q1, q2, q3, q4⟩ := hS
        have hx : xss ≠ [] := fun h => by
          have := hN.out
          rw [h] at this
          have : N = 0 := this.symm
          omega
        obtain ⟨bb, off, rfl, h6⟩ := h5 hx
        have hld := xCq (ty := 91) (h6 w hR k (by omega))
        rw [hV] at hld
        have hstep : s + (xss.getD k []).length = N + totL xss (k + 1) := by rw [totL_succ xss (by have := hN.out; omega), hall]; omega
        clear hV q1 q2 q3 q4 hall
        obtain ⟨s2, hs2⟩ : ∃ x, s + (xss.getD k []).length = x := ⟨_, rfl⟩
        have hs2l : s2 < 1000000000000000 := by omega
        rw [hs2] at hstep
        generalize (xss.getD k []).length = m at *
        have e1 : IntKind.i64.wrap ((s : Int) + (m : Int)) = (s2 : Int) := by rw [IntKind.wrap_i64]; omega
        have e2 : IntKind.i64.wrap ((k : Int) + 1) = (k : Int) + 1 := by rw [IntKind.wrap_i64]; omega
        have ek : ((k + 1 : Nat) : Int) = (k : Int) + 1 := by omega
        replace hstep := Held.mk hstep
        replace hs2 := Held.mk hs2
        replace ek := Held.mk ek
        repeat (first | (obtain ⟨x, tm', e, ht'⟩ := xAj ht; clear ht; subst e; have ht := ht'; clear ht') | (obtain ⟨tm', e, ht'⟩ := xAi ht; clear ht; subst e; have ht := ht'; clear ht'))
        obtain rfl := xAk ht
        clear ht
        go_wp2_with (first | (refine' xAg hR rfl rfl rfl ?_; clear hR; intro blk w hR) | (refine' xAc hR rfl rfl inferInstance ?_; clear hR; intro blk w hR) | (refine' xAf hR rfl rfl rfl inferInstance ?hm ?hn ?_; (case hm => first | with_reducible assumption | repeat (first | exact .head _ | with_reducible assumption | apply mC)); (case hn => first | rfl | simp)) | (refine' xAe hR rfl rfl rfl inferInstance ?hm ?hv ?hn ?_; (case hm => first | with_reducible assumption | repeat (first | exact .head _ | with_reducible assumption | apply mC)); (case hv => first | with_reducible assumption | (simp only [kC, kD, kE, kF]; try rfl)); (case hn => first | rfl | simp)) | (refine' xAd hR rfl rfl rfl inferInstance ?hm ?hv ?_; (case hm => first | with_reducible assumption | repeat (first | exact .head _ | with_reducible assumption | apply mC)); (case hv => first | rfl | with_reducible assumption)) | (refine' xAb hR rfl rfl rfl inferInstance rfl ?hs ?zone ?zvn ?hn ?_; (case hs => repeat (first | exact xAh.head | apply xAh.tail)); (case zone => first | rfl | with_reducible assumption); (case zvn => first | rfl | simp); (case hn => first | rfl | simp); clear hR; intro w hR) | (refine' xAa hR rfl rfl rfl inferInstance rfl rfl ?hs ?hn ?hl ?_; (case hs => repeat (first | exact xAh.head | apply xAh.tail)); (case hn => first | exact oD rfl | (show _ < 4; with_reducible assumption) | (simp; try omega)); (case hl => first | with_reducible assumption | (simp only [nl, kA, kB]; first | done | rfl) | rfl); clear hR; intro w hR) | (refine' xAp hR rfl rfl rfl inferInstance ?hm ?hn ?_; (case hm => first | with_reducible assumption | repeat (first | exact .head _ | with_reducible assumption | apply mC)); (case hn => first | rfl | simp)) | (refine' xAm hR rfl rfl rfl inferInstance ?hm ?hv ?_; (case hm => first | with_reducible assumption | repeat (first | exact .head _ | with_reducible assumption | apply mC)); (case hv => first | rfl | with_reducible assumption)) | (refine' xBp rfl rfl rfl hld ?_) | (go_at_call 115; refine (bytes_size _ _ _ hR).mono ?_; clear hR; rintro e w ⟨rfl, hR⟩))
        exact hK.out ⟨k + 1, s2⟩ _ _ ⟨by show k + 1 ≤ N; omega, hs2l, hstep.out⟩ (by show N - (k + 1) < N - k; omega) (by simp only [ek.out]; exact xAl rfl rfl rfl) hR
      · have g2 : ¬ (s : Int) ≤ 1048576 := by omega
        have g3 : (1048576 : Int) < (s : Int) := by omega
        have t2 : decide ((s : Int) ≤ 1048576) = false := decide_eq_false g2
        clear hK
        replace hall := Held.mk hall
        replace hsm := Held.mk hsm
        repeat (first | (obtain ⟨x, tm', e, ht'⟩ := xAj ht; clear ht; subst e; have ht := ht'; clear ht') | (obtain ⟨tm', e, ht'⟩ := xAi ht; clear ht; subst e; have ht := ht'; clear ht'))
        obtain rfl := xAk ht
        clear ht
        go_wp2_with (first | (refine' xAg hR rfl rfl rfl ?_; clear hR; intro blk w hR) | (refine' xAc hR rfl rfl inferInstance ?_; clear hR; intro blk w hR) | (refine' xAf hR rfl rfl rfl inferInstance ?hm ?hn ?_; (case hm => first | with_reducible assumption | repeat (first | exact .head _ | with_reducible assumption | apply mC)); (case hn => first | rfl | simp)) | (refine' xAe hR rfl rfl rfl inferInstance ?hm ?hv ?hn ?_; (case hm => first | with_reducible assumption | repeat (first | exact .head _ | with_reducible assumption | apply mC)); (case hv => first | with_reducible assumption | (simp only [kC, kD, kE, kF]; try rfl)); (case hn => first | rfl | simp)) | (refine' xAd hR rfl rfl rfl inferInstance ?hm ?hv ?_; (case hm => first | with_reducible assumption | repeat (first | exact .head _ | with_reducible assumption | apply mC)); (case hv => first | rfl | with_reducible assumption)) | (refine' xAb hR rfl rfl rfl inferInstance rfl ?hs ?zone ?zvn ?hn ?_; (case hs => repeat (first | exact xAh.head | apply xAh.tail)); (case zone => first | rfl | with_reducible assumption); (case zvn => first | rfl | simp); (case hn => first | rfl | simp); clear hR; intro w hR) | (refine' xAa hR rfl rfl rfl inferInstance rfl rfl ?hs ?hn ?hl ?_; (case hs => repeat (first | exact xAh.head | apply xAh.tail)); (case hn => first | exact oD rfl | (show _ < 4; with_reducible assumption) | (simp; try omega)); (case hl => first | with_reducible assumption | (simp only [nl, kA, kB]; first | done | rfl) | rfl); clear hR; intro w hR) | (refine' xAp hR rfl rfl rfl inferInstance ?hm ?hn ?_; (case hm => first | with_reducible assumption | repeat (first | exact .head _ | with_reducible assumption | apply mC)); (case hn => first | rfl | simp)) | (refine' xAm hR rfl rfl rfl inferInstance ?hm ?hv ?_; (case hm => first | with_reducible assumption | repeat (first | exact .head _ | with_reducible assumption | apply mC)); (case hv => first | rfl | with_reducible assumption)) | fail)
        go_ret
        exact ⟨s, rfl, fun h => absurd h hsm.out, hR⟩
def GreatOut (B0 : Nat) (w0 : World) (L : List (Nat × Obj)) (n : Nat) (xss : List (List Nat)) (e : Ending) (w' : World) : Prop := ∃ b : Bool, e = .returned (.bool b) ∧ (b = false → n ≤ 5000 ∧ xss.length ≤ 200 ∧ xss.length + totL xss xss.length ≤ 20000) ∧ Rep B0 w0 L w'
set_option maxRecDepth 100000 in
set_option maxHeartbeats 4000000 in
theorem great_any (s : ByteArray) (v : Value) (xss : List (List Nat)) (hv : RowsOf B0 w0 L v xss) (hR : Rep B0 w0 L w) :
    Calls Try.prog 19 #[.string s, v] w fun e w' => GreatOut B0 w0 L s.size xss e w' := by
  have hv0 := hv
  obtain ⟨a, cp, V, rfl, h1, h2, h4, h5⟩ := hv
  obtain ⟨N, hN⟩ : ∃ N, xss.length = N := ⟨_, rfl⟩
  rw [hN] at hv0 h1 ⊢
  by_cases hs : 5000 < s.size
  · have g1 : decide ((5000 : Int) < (s.size : Int)) = true := decide_eq_true (by omega)
    have g1' : (5000 : Int) < (s.size : Int) := by omega
    clear h4 h5 hv0
    go_enter Try.func19, Try.ntmps19
    go_wp2_with (first | (refine' xAg hR rfl rfl rfl ?_; clear hR; intro blk w hR) | (refine' xAc hR rfl rfl inferInstance ?_; clear hR; intro blk w hR) | (refine' xAf hR rfl rfl rfl inferInstance ?hm ?hn ?_; (case hm => first | with_reducible assumption | repeat (first | exact .head _ | with_reducible assumption | apply mC)); (case hn => first | rfl | simp)) | (refine' xAe hR rfl rfl rfl inferInstance ?hm ?hv ?hn ?_; (case hm => first | with_reducible assumption | repeat (first | exact .head _ | with_reducible assumption | apply mC)); (case hv => first | with_reducible assumption | (simp only [kC, kD, kE, kF]; try rfl)); (case hn => first | rfl | simp)) | (refine' xAd hR rfl rfl rfl inferInstance ?hm ?hv ?_; (case hm => first | with_reducible assumption | repeat (first | exact .head _ | with_reducible assumption | apply mC)); (case hv => first | rfl | with_reducible assumption)) | (refine' xAb hR rfl rfl rfl inferInstance rfl ?hs ?zone ?zvn ?hn ?_; (case hs => repeat (first | exact xAh.head | apply xAh.tail)); (case zone => first | rfl | with_reducible assumption); (case zvn => first | rfl | simp); (case hn => first | rfl | simp); clear hR; intro w hR) | (refine' xAa hR rfl rfl rfl inferInstance rfl rfl ?hs ?hn ?hl ?_; (case hs => repeat (first | exact xAh.head | apply xAh.tail)); (case hn => first | exact oD rfl | (show _ < 4; with_reducible assumption) | (simp; try omega)); (case hl => first | with_reducible assumption | (simp only [nl, kA, kB]; first | done | rfl) | rfl); clear hR; intro w hR) | (refine' xAp hR rfl rfl rfl inferInstance ?hm ?hn ?_; (case hm => first | with_reducible assumption | repeat (first | exact .head _ | with_reducible assumption | apply mC)); (case hn => first | rfl | simp)) | (refine' xAm hR rfl rfl rfl inferInstance ?hm ?hv ?_; (case hm => first | with_reducible assumption | repeat (first | exact .head _ | with_reducible assumption | apply mC)); (case hv => first | rfl | with_reducible assumption)) | fail)
    go_ret
    exact ⟨true, rfl, fun h => (by cases h), hR⟩
  have g1 : decide ((5000 : Int) < (s.size : Int)) = false := decide_eq_false (by omega)
  have g1' : ¬ (5000 : Int) < (s.size : Int) := by omega
  by_cases h200 : 200 < N
  · have g2 : decide ((200 : Int) < (N : Int)) = true := decide_eq_true (by omega)
    have g2' : (200 : Int) < (N : Int) := by omega
    clear h4 h5 hv0
    go_enter Try.func19, Try.ntmps19
    go_wp2_with (first | (refine' xAg hR rfl rfl rfl ?_; clear hR; intro blk w hR) | (refine' xAc hR rfl rfl inferInstance ?_; clear hR; intro blk w hR) | (refine' xAf hR rfl rfl rfl inferInstance ?hm ?hn ?_; (case hm => first | with_reducible assumption | repeat (first | exact .head _ | with_reducible assumption | apply mC)); (case hn => first | rfl | simp)) | (refine' xAe hR rfl rfl rfl inferInstance ?hm ?hv ?hn ?_; (case hm => first | with_reducible assumption | repeat (first | exact .head _ | with_reducible assumption | apply mC)); (case hv => first | with_reducible assumption | (simp only [kC, kD, kE, kF]; try rfl)); (case hn => first | rfl | simp)) | (refine' xAd hR rfl rfl rfl inferInstance ?hm ?hv ?_; (case hm => first | with_reducible assumption | repeat (first | exact .head _ | with_reducible assumption | apply mC)); (case hv => first | rfl | with_reducible assumption)) | (refine' xAb hR rfl rfl rfl inferInstance rfl ?hs ?zone ?zvn ?hn ?_; (case hs => repeat (first | exact xAh.head | apply xAh.tail)); (case zone => first | rfl | with_reducible assumption); (case zvn => first | rfl | simp); (case hn => first | rfl | simp); clear hR; intro w hR) | (refine' xAa hR rfl rfl rfl inferInstance rfl rfl ?hs ?hn ?hl ?_; (case hs => repeat (first | exact xAh.head | apply xAh.tail)); (case hn => first | exact oD rfl | (show _ < 4; with_reducible assumption) | (simp; try omega)); (case hl => first | with_reducible assumption | (simp only [nl, kA, kB]; first | done | rfl) | rfl); clear hR; intro w hR) | (refine' xAp hR rfl rfl rfl inferInstance ?hm ?hn ?_; (case hm => first | with_reducible assumption | repeat (first | exact .head _ | with_reducible assumption | apply mC)); (case hn => first | rfl | simp)) | (refine' xAm hR rfl rfl rfl inferInstance ?hm ?hv ?_; (case hm => first | with_reducible assumption | repeat (first | exact .head _ | with_reducible assumption | apply mC)); (case hv => first | rfl | with_reducible assumption)) | fail)
    go_ret
    exact ⟨true, rfl, fun h => (by cases h), hR⟩
  have g2 : decide ((200 : Int) < (N : Int)) = false := decide_eq_false (by omega)
  have g2' : ¬ (200 : Int) < (N : Int) := by omega
  have cr := fun (w : World) (hR : Rep B0 w0 L w) => records_sum (w := w) _ xss (by omega) hv0 hR
  rw [hN] at cr
  clear h4 h5 hv0 h1 h2
  replace hs := Held.mk hs
  replace h200 := Held.mk h200
  replace hN := Held.mk hN
  go_enter Try.func19, Try.ntmps19
  go_wp2_with (first | (refine' xAg hR rfl rfl rfl ?_; clear hR; intro blk w hR) | (refine' xAc hR rfl rfl inferInstance ?_; clear hR; intro blk w hR) | (refine' xAf hR rfl rfl rfl inferInstance ?hm ?hn ?_; (case hm => first | with_reducible assumption | repeat (first | exact .head _ | with_reducible assumption | apply mC)); (case hn => first | rfl | simp)) | (refine' xAe hR rfl rfl rfl inferInstance ?hm ?hv ?hn ?_; (case hm => first | with_reducible assumption | repeat (first | exact .head _ | with_reducible assumption | apply mC)); (case hv => first | with_reducible assumption | (simp only [kC, kD, kE, kF]; try rfl)); (case hn => first | rfl | simp)) | (refine' xAd hR rfl rfl rfl inferInstance ?hm ?hv ?_; (case hm => first | with_reducible assumption | repeat (first | exact .head _ | with_reducible assumption | apply mC)); (case hv => first | rfl | with_reducible assumption)) | (refine' xAb hR rfl rfl rfl inferInstance rfl ?hs ?zone ?zvn ?hn ?_; (case hs => repeat (first | exact xAh.head | apply xAh.tail)); (case zone => first | rfl | with_reducible assumption); (case zvn => first | rfl | simp); (case hn => first | rfl | simp); clear hR; intro w hR) | (refine' xAa hR rfl rfl rfl inferInstance rfl rfl ?hs ?hn ?hl ?_; (case hs => repeat (first | exact xAh.head | apply xAh.tail)); (case hn => first | exact oD rfl | (show _ < 4; with_reducible assumption) | (simp; try omega)); (case hl => first | with_reducible assumption | (simp only [nl, kA, kB]; first | done | rfl) | rfl); clear hR; intro w hR) | (refine' xAp hR rfl rfl rfl inferInstance ?hm ?hn ?_; (case hm => first | with_reducible assumption | repeat (first | exact .head _ | with_reducible assumption | apply mC)); (case hn => first | rfl | simp)) | (refine' xAm hR rfl rfl rfl inferInstance ?hm ?hv ?_; (case hm => first | with_reducible assumption | repeat (first | exact .head _ | with_reducible assumption | apply mC)); (case hv => first | rfl | with_reducible assumption)) | (go_at_call 58; refine (cr _ hR).mono ?_; clear hR cr; rintro e w ⟨k, rfl, hk, hR⟩; replace hk := Held.mk hk))
  go_ret
  refine ⟨decide ((20000 : Int) < (k : Int)), rfl, fun h => ?_, hR⟩
  have h' : ¬ (20000 : Int) < (k : Int) := of_decide_eq_false h
  have := hk.out (by omega)
  rw [hN.out]
  exact ⟨by have := hs.out; omega, by have := h200.out; omega, by omega⟩
end
end Go.Proofs.Ythbcgcncoggagaa
namespace Go.Proofs.Ythbcgcncoggagaa
open Go.RowKit
attribute [local irreducible] Calls
end Go.Proofs.Ythbcgcncoggagaa
