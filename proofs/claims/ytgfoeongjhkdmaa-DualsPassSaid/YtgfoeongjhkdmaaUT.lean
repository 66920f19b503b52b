/- What balefirelaw12.alive wants: the chapter's group, in plain terms; passes and Word behind what one holds. -/
import Derived.Test.YtgfoeongjhkdmaaUL
import Derived.Test.YtgfoeongjhkdmaaUQ
import Derived.Test.YtgfoeongjhkdmaaUZ
import Derived.Test.YtgfoeongjhkdmaaUGood
set_option linter.unusedVariables false
set_option linter.unusedSimpArgs false
namespace Go.Proofs.Ytgfoeongjhkdmaa
open Go.RowKit
attribute [local irreducible] Calls Instr.build Instr.buildSlice
section
variable {B0 : Nat} {w0 w : World} {L : List (Nat × Obj)} {p q g h n cp k : Nat} {a : Option Addr} {f : Nat → Nat}
theorem passes_yes [NeZero q] (hp : p < B) (hq : q < B) (hg : g < B) (hG : inG p q g) (hs : xCk q) (hg1 : g ≠ 1) (hd : difOK q n) (hA : NAt B0 w0 L a n cp f) (hn1 : 1 ≤ n) (hn7 : n ≤ 7) (hk1 : 1 ≤ k) (hkn : k ≤ n) (s : Bool) (hh : s = true ↔ ∀ kk, kk < n - k → tkk q n (ptF q) (fun t => fi q (f t)) kk = 0) (hR : Rep B0 w0 L w) :
    Calls Try.prog 21 #[grp p q g h, .slice a n cp, .int .i64 (k : Int)] w fun e w' => e = .returned (.tuple #[.bool s, .int .i64 0]) ∧ Rep B0 w0 L w' :=
  (passes_gen (q := q) (h := h) hp hg hG.1 (hA.here hR) (by omega) (k : Int) s 0 (fun X L w hX hL hw =>
    dcheck_yes (g := g) (h := h) hp hq hG.1.1 hs.1 (grN_nat hX (fun j _ => Nat.lt_trans (pow_lt' hG.1.1 _ _) hp) hL) (fun j _ => (in_exp (by have := hs.1; omega) hG (f j)).1) hd hn1 hn7 hk1 hkn s (by rw [hh]; exact (ckAll_iff hp hq hG hs hg1 hd).symm) hw)).mono fun e w' ⟨h1, h2⟩ => ⟨h1, hR.call h2⟩
theorem passes_no (hp : p < B) (hg : g < B) (ok : mayG p g) (hA : NAt B0 w0 L a n cp f) (hn : n ≤ 1000) (m : Int) (hbad : n < 1 ∨ 7 < n ∨ m < 1 ∨ (n : Int) < m) (hR : Rep B0 w0 L w) :
    Calls Try.prog 21 #[grp p q g h, .slice a n cp, .int .i64 m] w fun e w' => e = .returned (.tuple #[.bool false, .int .i64 1]) ∧ Rep B0 w0 L w' :=
  (passes_gen (q := q) (h := h) hp hg ok (hA.here hR) hn m false 1 (fun X L w hX hL hw => dcheck_no m hbad hw)).mono fun e w' ⟨h1, h2⟩ => ⟨h1, hR.call h2⟩
end
theorem nOwn_congrD {cap n : Nat} {cur : List Value} {f f' : Nat → Nat} (h : NOwn cap cur n f) (he : ∀ j, j < n → f j = f' j) : NOwn cap cur n f' := ⟨h.le, h.big, h.len, by rw [h.is, xCd he]⟩
theorem isS11 : xCk 11 := Classical.byContradiction fun h => by
  have := smallB_no h
  rw [small_11] at this
  cases this
theorem in4 : inG 23 11 4 := ⟨⟨by decide, by decide, by decide⟩, by rw [xCc]⟩
theorem lt23 : 23 < B := lt_B (by decide)
theorem lt11D : 11 < B := lt_B (by decide)
theorem lt4D : 4 < B := lt_B (by decide)
theorem d11 : difOK 11 3 := dif_small isS11 (by decide)
theorem pt11 (t : Nat) (ht : t < 3) : ptF 11 t = t + 1 := ptF_is (by decide) (by omega)
theorem pass_357 : ∀ kk, kk < 3 - 2 → tkk 11 3 (ptF 11) (fun t => fi 11 (nF [3, 5, 7] t)) kk = 0 :=
  (pass_iff (q := 11) (D := fun j => fi 11 (nF [1, 2, 0] j)) (by decide) (fun j _ => ptF_lt (by decide) j) (xDa (by decide) d11) (fun j hj => by
    rw [pt11 j hj]
    match j, hj with
    | 0, _ => decide
    | 1, _ => decide
    | 2, _ => decide) (by decide) (by decide)).2 fun j h1 h2 => by
    obtain rfl : j = 2 := by omega
    decide
theorem pass_358 : ¬ ∀ kk, kk < 3 - 2 → tkk 11 3 (ptF 11) (fun t => fi 11 (nF [3, 5, 8] t)) kk = 0 := fun h => by
  have := (pass_iff (q := 11) (D := fun j => fi 11 (nF [2, 6, 6] j)) (by decide) (fun j _ => ptF_lt (by decide) j) (xDa (by decide) d11) (fun j hj => by
    rw [pt11 j hj]
    match j, hj with
    | 0, _ => decide
    | 1, _ => decide
    | 2, _ => decide) (by decide) (by decide)).1 h 2 (by decide) (by decide)
  revert this
  decide
theorem word_1 : ∀ j, j < 3 → wordF 11 3 1 (nF [1]) j = nF [6, 10, 6] j := fun j hj => by
  refine fi_inj (q := 11) (wordF_lt (by decide) j) (nF_all (n := 3) rfl (by decide) j hj) ?_
  have hE := (wtE_all (q := 11) (by decide) 3).1 (xDa (by decide) d11)
  have hv := fi_vu (q := 11) (f := ptF 11) (by decide) (fun j _ => ptF_lt (by decide) j) hj (hE j hj)
  rw [PS_congr (G' := fun t => fi 11 (j + 1) - fi 11 (t + 1)) 3 (fun t ht _ => by rw [pt11 j hj, pt11 t ht])] at hv
  rw [wordF, fi_word (by decide) d11 hj, c0F, fi_atN (q := 11) (by decide) (nF_all (n := 1) rfl (by decide))]
  generalize fi 11 (vF 11 3 (ptF 11) j) = v at hv ⊢
  rw [pt11 j hj]
  match j, hj with
  | 0, _ => revert v; decide
  | 1, _ => revert v; decide
  | 2, _ => revert v; decide
section
variable {B0 : Nat} {w0 w : World} {L : List (Nat × Obj)}
theorem al12_w1 {g cap : Nat} {cur : List Value} (ho : NOwn cap cur 1 (nF [1])) (hm : (g, Obj.cells cur.toArray 24) ∈ L) (hR : Rep B0 w0 L w) : Calls Try.prog 42 #[grp 23 11 4 9, .int .i64 3, .slice (some ⟨g, 0, none⟩) 1 cap] w fun e w' => ∃ gb, e = .returned (.tuple #[.slice (some ⟨gb, 0, none⟩) 3 3, .int .i64 0]) ∧ ∃ cur' : List Value, NOwn 3 cur' 3 (nF [6, 10, 6]) ∧ Rep B0 w0 ((gb, .cells cur'.toArray 24) :: L) w' :=
  (word_yes (n := 3) (g := 4) (h := 9) lt23 lt11D (by decide) (ho.at (B0 := B0) (w0 := w0) hm (Nat.le_refl _) (nF_all rfl fun x hx => Nat.lt_trans ((by decide : ∀ x ∈ [1], x < 11) x hx) lt11D)) (nF_all rfl (by decide)) d11 (by decide) (by decide) (by decide) hR).mono fun e w' ⟨gb, h1, h2⟩ => ⟨gb, h1, _, nOwn_congrD (rowsN_own (n := 3) (by decide)) word_1, h2⟩
theorem al12_w2 {g cap : Nat} (hR : Rep B0 w0 L w) : Calls Try.prog 42 #[grp 23 11 4 9, .int .i64 3, .slice (some ⟨g, 0, none⟩) 3 cap] w fun e w' => e = .returned (.tuple #[.slice none 0 0, .int .i64 1]) ∧ Rep B0 w0 L w' := word_bad 3 (.inr (.inr (by decide))) hR
theorem al12_w3 {g cap : Nat} (hR : Rep B0 w0 L w) : Calls Try.prog 42 #[grp 23 11 4 9, .int .i64 8, .slice (some ⟨g, 0, none⟩) 1 cap] w fun e w' => e = .returned (.tuple #[.slice none 0 0, .int .i64 1]) ∧ Rep B0 w0 L w' := word_bad 8 (.inr (.inl (by decide))) hR
theorem al12_p1 {g cap : Nat} {cur : List Value} (ho : NOwn cap cur 3 (nF [3, 5, 7])) (hm : (g, Obj.cells cur.toArray 24) ∈ L) (hR : Rep B0 w0 L w) : Calls Try.prog 21 #[grp 23 11 4 9, .slice (some ⟨g, 0, none⟩) 3 cap, .int .i64 2] w fun e w' => e = .returned (.tuple #[.bool true, .int .i64 0]) ∧ Rep B0 w0 L w' :=
  passes_yes (k := 2) (n := 3) lt23 lt11D lt4D in4 isS11 (by decide) d11 (ho.at (B0 := B0) (w0 := w0) hm (Nat.le_refl _) (nF_all rfl fun x hx => Nat.lt_trans ((by decide : ∀ x ∈ [3, 5, 7], x < 11) x hx) lt11D)) (by decide) (by decide) (by decide) (by decide) true ⟨fun _ => pass_357, fun _ => rfl⟩ hR
theorem al12_p2 {g cap : Nat} {cur : List Value} (ho : NOwn cap cur 3 (nF [3, 5, 8])) (hm : (g, Obj.cells cur.toArray 24) ∈ L) (hR : Rep B0 w0 L w) : Calls Try.prog 21 #[grp 23 11 4 9, .slice (some ⟨g, 0, none⟩) 3 cap, .int .i64 2] w fun e w' => e = .returned (.tuple #[.bool false, .int .i64 0]) ∧ Rep B0 w0 L w' :=
  passes_yes (k := 2) (n := 3) lt23 lt11D lt4D in4 isS11 (by decide) d11 (ho.at (B0 := B0) (w0 := w0) hm (Nat.le_refl _) (nF_all rfl fun x hx => Nat.lt_trans ((by decide : ∀ x ∈ [3, 5, 8], x < 11) x hx) lt11D)) (by decide) (by decide) (by decide) (by decide) false ⟨fun h => (by cases h), fun h => absurd h pass_358⟩ hR
theorem al12_p3 {g cap : Nat} {cur : List Value} (ho : NOwn cap cur 1 (nF [1])) (hm : (g, Obj.cells cur.toArray 24) ∈ L) (hR : Rep B0 w0 L w) : Calls Try.prog 21 #[grp 23 11 4 9, .slice (some ⟨g, 0, none⟩) 1 cap, .int .i64 2] w fun e w' => e = .returned (.tuple #[.bool false, .int .i64 1]) ∧ Rep B0 w0 L w' :=
  passes_no (q := 11) lt23 lt4D in4.1 (ho.at (B0 := B0) (w0 := w0) hm (Nat.le_refl _) (nF_all rfl fun x hx => Nat.lt_trans ((by decide : ∀ x ∈ [1], x < 11) x hx) lt11D)) (by decide) 2 (.inr (.inr (.inr (by decide)))) hR
theorem al12_same {g cap g' cap' : Nat} {cur cur' : List Value} (ho : NOwn cap cur 3 (nF [6, 10, 6])) (hm : (g, Obj.cells cur.toArray 24) ∈ L) (ho' : NOwn cap' cur' 3 (nF [6, 10, 6])) (hm' : (g', Obj.cells cur'.toArray 24) ∈ L) (hR : Rep B0 w0 L w) : Calls Try.prog 12 #[.slice (some ⟨g, 0, none⟩) 3 cap, .slice (some ⟨g', 0, none⟩) 3 cap'] w fun e w' => e = .returned (.bool true) ∧ Rep B0 w0 L w' :=
  same_nums (ho.at (B0 := B0) (w0 := w0) hm (Nat.le_refl _) (nF_all rfl fun x hx => Nat.lt_trans ((by decide : ∀ x ∈ [6, 10, 6], x < 11) x hx) lt11D)) (ho'.at (B0 := B0) (w0 := w0) hm' (Nat.le_refl _) (nF_all rfl fun x hx => Nat.lt_trans ((by decide : ∀ x ∈ [6, 10, 6], x < 11) x hx) lt11D)) (by decide) true ⟨fun _ => ⟨rfl, fun _ _ => rfl⟩, fun _ => rfl⟩ hR
end
end Go.Proofs.Ytgfoeongjhkdmaa
namespace Go.Proofs.Ytgfoeongjhkdmaa
open Go.RowKit
attribute [local irreducible] Calls Instr.build Instr.buildSlice Instr.makeSlice
section
variable {B0 : Nat} {w0 w W : World} {L : List (Nat × Obj)} {p q g h n cp k : Nat} {a : Option Addr} {f : Nat → Nat}
def fineD (p q g h n : Nat) (f : Nat → Nat) : Prop := goodG p q g h ∧ 7 < q ∧ ∀ j, j < n → f j < q
set_option maxRecDepth 100000 in
set_option maxHeartbeats 8000000 in
theorem fine12_any (hp : p < B) (hq : q < B) (hg : g < B) (hh : h < B) (hA : NAt W.heap.size W [] a n cp f) (hn : n ≤ 1000) (s : Bool) (hs : s = true ↔ fineD p q g h n f) :
    Calls Try.prog 19 #[grp p q g h, .slice a n cp] W fun e w' => e = .returned (.bool s) ∧ Below W.heap.size W w' := by
  classical
  have hR := Rep.init W
  obtain ⟨av, ea, hea, cA⟩ : ∃ (av : Nat) (ea : Int), ((okA q n f 0 ∧ ea = 0) ∨ (¬ okA q n f 0 ∧ ea = 1)) ∧ ∀ (L : List (Nat × Obj)) (w : World), Rep W.heap.size W L w → Calls Try.prog 10 #[grp p q g h, .slice a n cp, num 0] w fun e w' => e = .returned (.tuple #[num av, .int .i64 ea]) ∧ Rep W.heap.size W L w' := by
    by_cases hok : okA q n f 0
    · exact ⟨_, 0, .inl ⟨hok, rfl⟩, fun L w hw => at_yes (g := g) (h := h) hp hq hn (hA.any (L := L)) hok hw⟩
    · exact ⟨0, 1, .inr ⟨hok, rfl⟩, fun L w hw => at_no (g := g) (h := h) hp hq B_pos hn (hA.any (L := L)) hok hw⟩
  have no : ¬ fineD p q g h n f → s = false := fun h => by
    cases s
    · rfl
    · exact absurd (hs.1 rfl) h
  by_cases hgd : goodG p q g h
  case neg =>
    obtain rfl := no fun h => hgd h.1
    have cG := good_lit (s := false) hp hq hg hh ⟨fun h => (by cases h), fun h => absurd h hgd⟩
    clear hs no hgd hA hea
    go_enter Try.func19, Try.ntmps19
    go_wp2_with (first | go_skip | (refine' xAb hR rfl rfl rfl ?_; clear hR; intro blk w hR) | (refine' xAa hR rfl rfl inferInstance ?_; clear hR; intro blk w hR) | (refine' aFq hR rfl rfl rfl inferInstance ?_) | (refine' aGq hR rfl rfl rfl inferInstance ?_) | (refine' aHq hR rfl rfl rfl inferInstance ?_) | (refine' aIq hR rfl rfl rfl inferInstance rfl ?_; clear hR; intro w hR) | (refine' aJq hR rfl rfl rfl inferInstance rfl rfl ?_; clear hR; intro w hR) | (refine' xAq hR rfl rfl rfl inferInstance ?hm ?hn ?_; (case hm => first | with_reducible assumption | repeat (first | exact .head _ | with_reducible assumption | apply mC)); (case hn => first | rfl | simp)) | (refine' xAh hR rfl rfl rfl inferInstance ?hm ?hv ?_; (case hm => first | with_reducible assumption | repeat (first | exact .head _ | with_reducible assumption | apply mC)); (case hv => first | rfl | with_reducible assumption)) | (refine' xAs hR rfl rfl rfl inferInstance ?hm ?hv ?hn ?_; (case hm => first | with_reducible assumption | repeat (first | exact .head _ | with_reducible assumption | apply mC)); (case hv => first | with_reducible assumption | (simp only [kC, kD, kE, kF]; try rfl)); (case hn => first | rfl | simp)) | (refine' xCh rfl rfl build_Z ?_) | (go_at_call 10; refine (cA _ _ hR).mono ?_; clear hR; rintro e w ⟨rfl, hR⟩) | (go_at_call 43; refine (cG _).mono ?_; rintro e w ⟨rfl, hb⟩; replace hR := hR.call hb; clear hb))
    go_ret
    exact ⟨rfl, hR.below⟩
  have cG := good_lit (s := true) hp hq hg hh ⟨fun _ => hgd, fun _ => rfl⟩
  have q31 : q < 2147483648 := hgd.2.1
  have q1 : 1 < q := hgd.2.2.2.1.1
  have wq := wd_word (show q < 18446744073709551616 by omega)
  by_cases h7 : 7 < q
  case neg =>
    obtain rfl := no fun h => h7 h.2.1
    have d1 : decide (7 < (q : Int)) = false := decide_eq_false (by omega)
    have d2 : ¬ 7 < (q : Int) := by omega
    clear hs no hgd hA hea h7 q31 q1
    go_enter Try.func19, Try.ntmps19
    go_wp2_with (first | go_skip | (refine' xAb hR rfl rfl rfl ?_; clear hR; intro blk w hR) | (refine' xAa hR rfl rfl inferInstance ?_; clear hR; intro blk w hR) | (refine' aFq hR rfl rfl rfl inferInstance ?_) | (refine' aGq hR rfl rfl rfl inferInstance ?_) | (refine' aHq hR rfl rfl rfl inferInstance ?_) | (refine' aIq hR rfl rfl rfl inferInstance rfl ?_; clear hR; intro w hR) | (refine' aJq hR rfl rfl rfl inferInstance rfl rfl ?_; clear hR; intro w hR) | (refine' xAq hR rfl rfl rfl inferInstance ?hm ?hn ?_; (case hm => first | with_reducible assumption | repeat (first | exact .head _ | with_reducible assumption | apply mC)); (case hn => first | rfl | simp)) | (refine' xAh hR rfl rfl rfl inferInstance ?hm ?hv ?_; (case hm => first | with_reducible assumption | repeat (first | exact .head _ | with_reducible assumption | apply mC)); (case hv => first | rfl | with_reducible assumption)) | (refine' xAs hR rfl rfl rfl inferInstance ?hm ?hv ?hn ?_; (case hm => first | with_reducible assumption | repeat (first | exact .head _ | with_reducible assumption | apply mC)); (case hv => first | with_reducible assumption | (simp only [kC, kD, kE, kF]; try rfl)); (case hn => first | rfl | simp)) | (refine' xCh rfl rfl build_Z ?_) | (go_at_call 10; refine (cA _ _ hR).mono ?_; clear hR; rintro e w ⟨rfl, hR⟩) | (go_at_call 43; refine (cG _).mono ?_; rintro e w ⟨rfl, hb⟩; replace hR := hR.call hb; clear hb))
    go_ret
    exact ⟨rfl, hR.below⟩
  have d1 : decide (7 < (q : Int)) = true := decide_eq_true (by omega)
  have d2 : 7 < (q : Int) := by omega
  have hc : (s = true ∧ ea = 0) ∨ (s = false ∧ ea = 1) := by
    rcases hea with ⟨h1, h2⟩ | ⟨h1, h2⟩
    · exact .inl ⟨hs.2 ⟨hgd, h7, h1.1.2⟩, h2⟩
    · exact .inr ⟨no fun h => h1 ⟨⟨q1, h.2.2⟩, by omega⟩, h2⟩
  clear hs no hgd hA hea h7 q31 q1
  rcases hc with ⟨rfl, rfl⟩ | ⟨rfl, rfl⟩
  all_goals
    go_enter Try.func19, Try.ntmps19
    go_wp2_with (first | go_skip | (refine' xAb hR rfl rfl rfl ?_; clear hR; intro blk w hR) | (refine' xAa hR rfl rfl inferInstance ?_; clear hR; intro blk w hR) | (refine' aFq hR rfl rfl rfl inferInstance ?_) | (refine' aGq hR rfl rfl rfl inferInstance ?_) | (refine' aHq hR rfl rfl rfl inferInstance ?_) | (refine' aIq hR rfl rfl rfl inferInstance rfl ?_; clear hR; intro w hR) | (refine' aJq hR rfl rfl rfl inferInstance rfl rfl ?_; clear hR; intro w hR) | (refine' xAq hR rfl rfl rfl inferInstance ?hm ?hn ?_; (case hm => first | with_reducible assumption | repeat (first | exact .head _ | with_reducible assumption | apply mC)); (case hn => first | rfl | simp)) | (refine' xAh hR rfl rfl rfl inferInstance ?hm ?hv ?_; (case hm => first | with_reducible assumption | repeat (first | exact .head _ | with_reducible assumption | apply mC)); (case hv => first | rfl | with_reducible assumption)) | (refine' xAs hR rfl rfl rfl inferInstance ?hm ?hv ?hn ?_; (case hm => first | with_reducible assumption | repeat (first | exact .head _ | with_reducible assumption | apply mC)); (case hv => first | with_reducible assumption | (simp only [kC, kD, kE, kF]; try rfl)); (case hn => first | rfl | simp)) | (refine' xCh rfl rfl build_Z ?_) | (go_at_call 10; refine (cA _ _ hR).mono ?_; clear hR; rintro e w ⟨rfl, hR⟩) | (go_at_call 43; refine (cG _).mono ?_; rintro e w ⟨rfl, hb⟩; replace hR := hR.call hb; clear hb))
    go_ret
    exact ⟨rfl, hR.below⟩
end
end Go.Proofs.Ytgfoeongjhkdmaa
