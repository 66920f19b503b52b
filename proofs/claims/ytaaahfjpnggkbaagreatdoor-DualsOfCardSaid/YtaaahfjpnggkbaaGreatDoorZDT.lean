import Derived.Test.YtaaahfjpnggkbaaGreatDoorZDY
import Derived.Test.YtaaahfjpnggkbaaGreatDoorZDZ
import Derived.Test.YtaaahfjpnggkbaaGreatDoorZDW
set_option linter.unusedSimpArgs false
set_option linter.unusedVariables false
set_option maxRecDepth 100000
set_option maxHeartbeats 20000000
namespace Go.Proofs.YtaaahfjpnggkbaaGreatDoor
open Go.RowKit
section
attribute [local irreducible] Calls Instr.build Instr.buildSlice Instr.makeSlice
section
variable {B0 : Nat} {w0 w W : World} {L : List (Nat × Obj)} {p q g h n len cp : Nat} {a : Option Addr} {P : Nat → Nat}
theorem word_stop (k : Int) (hn1 : 1 ≤ n) (hn7 : n ≤ 7) (hl : len < n)
  (cw : ∀ (gb b8 b5 b4 b3 : Nat) (M : List (Nat × Obj)) (w : World), (∀ x ∈ M, x.2.isCells = true) → Rep W.heap.size W (M ++ wL p q g h n len cp a gb b8 b5 b4 b3 (fun _ => 0)) w → Calls Tryz.prog 101 #[.pointer (some ⟨b8, 0, none⟩), .pointer (some ⟨b3, 0, none⟩), .pointer (some ⟨b5, 0, none⟩), .pointer (some ⟨b4, 0, none⟩)] w fun e w' => e = .panicked (stopP k) ∧ Rep W.heap.size W (M ++ []) w') :
  Calls Tryz.prog 18 #[grp p q g h, .int .i64 (n : Int), .slice a len cp] W fun e w' => e = .returned (.tuple #[.slice none 0 0, .int .i64 k]) ∧ Below W.heap.size W w' := by
 have hR := Rep.init W
 have hmf : ∀ (fn : Fn) (first cap : Array Value) (w : World), (Instr.makeFunc fn first cap).run Tryz.prog w = .ok (.func fn first cap) w := fun _ _ _ _ => rfl
 have d1 : decide ((n : Int) < 1) = false := decide_eq_false (by omega)
 have d1' : ¬ (n : Int) < 1 := by omega
 have d2 : decide (7 < (n : Int)) = false := decide_eq_false (by omega)
 have d2' : ¬ 7 < (n : Int) := by omega
 have d3 : decide ((n : Int) ≤ (len : Int)) = false := decide_eq_false (by omega)
 have d3' : ¬ (n : Int) ≤ (len : Int) := by omega
 have hnM : n ≤ 1000000 := by omega
 replace cw := Held.mk cw
 go_enter Tryz.func18, Tryz.ntmps18
 go_wp2_with (first | go_skip | (refine' xBa (l := [.int .i64 (n : Int)]) hR rfl rfl rfl ?_; clear hR; intro blk w hR) | (refine' xBa (l := [.slice a len cp]) hR rfl rfl rfl ?_; clear hR; intro blk w hR) | (refine' aAq hR ?_; clear hR; intro blk w hR) | (refine' aBq hR ?_; clear hR; intro blk w hR) | (refine' aPq hR ?_) | (refine' aQq hR ?_) | (refine' aRq hR ?_) | (refine' aZq hR ?_; clear hR; intro w hR) | (refine' aAr hR ?_; clear hR; intro w hR) | (refine' aEr hR ?_) | (refine' aFr hR ?_) | (refine' aHr hR ?_) | (refine' xCk hR (xDl rfl rfl rfl rfl hnM) ?_; clear hR; intro blk w hR) | (go_at_call 100; refine (stopped_wordN (L' := []) [_, _, _, _] k (fun M w hM hw => cw.out _ _ _ _ _ M w hM hw) hR).mono ?_; clear hR; rintro e w ⟨rfl, hR⟩))
 go_ret2
 exact ⟨rfl, hR.below⟩
theorem word_arg (hp : p < B) (hq : q < B) (hA : NAt B0 w0 L a len cp P) (hno : ¬ (1 < q ∧ ∀ j, j < len → P j < q)) (hn1 : 1 ≤ n) (hn7 : n ≤ 7) (hl : len < n) (hR : Rep B0 w0 L w) :
  Calls Tryz.prog 18 #[grp p q g h, .int .i64 (n : Int), .slice a len cp] w fun e w' => e = .returned (.tuple #[.slice none 0 0, .int .i64 1]) ∧ Rep B0 w0 L w' :=
 (word_stop 1 hn1 hn7 hl fun gb b8 b5 b4 b3 M w' hM hw => (word1_arg (g := g) (h := h) hp hq (hA.here hR) (by omega) hno hn1 (by omega) M hM hw).mono fun e w'' hh => ⟨hh.1, hh.2.weaken (List.Sublist.append (List.Sublist.refl _) (List.nil_sublist _))⟩).mono fun e w' hh => ⟨hh.1, hR.call hh.2⟩
theorem word_none (hp : p < B) (hq : q < B) (h1 : 1 < q) (hA : NAt B0 w0 L a len cp P) (hP : ∀ j, j < len → P j < q) (hd : ¬ difOK q n) (hn1 : 1 ≤ n) (hn7 : n ≤ 7) (hl : len < n) (hR : Rep B0 w0 L w) :
  Calls Tryz.prog 18 #[grp p q g h, .int .i64 (n : Int), .slice a len cp] w fun e w' => e = .returned (.tuple #[.slice none 0 0, .int .i64 7]) ∧ Rep B0 w0 L w' :=
 (word_stop 7 hn1 hn7 hl fun gb b8 b5 b4 b3 M w' hM hw => word1_none (g := g) (h := h) hp hq h1 (hA.here hR) (by omega) hP hd (by omega) M hM hw).mono fun e w' hh => ⟨hh.1, hR.call hh.2⟩
theorem uni_word (hp : p < B) (hq : q < B) (hl : len ≤ 1000) (m : Int) : ∃ (k : Nat) (er : Int) (F : Nat → Nat), k ≤ 1000 ∧ (∀ j, j < k → F j < B) ∧
  (∀ {L : List (Nat × Obj)} {w : World} {a : Option Addr} {cp : Nat}, NAt B0 w0 L a len cp P → Rep B0 w0 L w → Calls Tryz.prog 18 #[grp p q g h, .int .i64 m, .slice a len cp] w fun e w' => ∃ X : GrN, e = .returned (.tuple #[.slice X.a k X.cap, .int .i64 er]) ∧ GrNOk X k F ∧ Rep B0 w0 (X.bl ++ L) w') ∧
  (∀ {L : List (Nat × Obj)} {w : World} {a : Option Addr} {cp : Nat}, NAt B0 w0 L a len cp P → Rep B0 w0 L w → Calls Tryz.prog 19 #[grp p q g h, .int .i64 m, .slice a len cp] w fun e w' => ∃ X : GrN, e = .returned (.tuple #[.slice X.a k X.cap, .int .i64 er]) ∧ GrNOk X k F ∧ Rep B0 w0 (X.bl ++ L) w') := by
 classical
 by_cases hbad : m < 1 ∨ 7 < m ∨ m ≤ (len : Int)
 ·exact ⟨0, 1, fun _ => 0, Nat.zero_le _, fun j hj => absurd hj (Nat.not_lt_zero j), fun hA hR => (word_bad m hbad hR).mono fun e w' hh => ⟨⟨none, 0, []⟩, hh.1, xFp _, hh.2⟩, fun hA hR => (rword_bad m hbad hR).mono fun e w' hh => ⟨⟨none, 0, []⟩, hh.1, xFp _, hh.2⟩⟩
 ·obtain ⟨n, rfl⟩ : ∃ n : Nat, m = (n : Int) := ⟨m.toNat, by omega⟩
  have hn1 : 1 ≤ n := by omega
  have hn7 : n ≤ 7 := by omega
  have hln : len < n := by omega
  by_cases hok : 1 < q ∧ ∀ j, j < len → P j < q
  ·obtain ⟨h1, hP⟩ := hok
   by_cases hd : difOK q n
   ·refine ⟨n, 0, xFg q n len P, by omega, fun j hj => Nat.lt_trans (wordF_lt h1 j) hq, fun hA hR => ?_, fun hA hR => ?_⟩
    ·refine (word_yes (g := g) (h := h) hp hq h1 hA hP hd hn1 hn7 hln hR).mono fun e w' ⟨gb, he, hR'⟩ => ?_
     exact ⟨⟨some ⟨gb, 0, none⟩, n, [(gb, .cells (xBy (xFg q n len P) n).toArray 24)]⟩, he, (xFv (f := xFg q n len P) (n := n) (by omega)).grn, hR'⟩
    ·refine (rword_go (p := p) (g := g) (h := h) hq h1 hA hP hl hn1 hn7 hln hR).mono fun e w' hh => ?_
     rcases hh with ⟨_, X, he, hX, hR'⟩ | ⟨hno, _⟩
     ·exact ⟨X, he, hX, hR'⟩
     ·exact absurd hd hno
   ·refine ⟨0, 7, fun _ => 0, Nat.zero_le _, fun j hj => absurd hj (Nat.not_lt_zero j), fun hA hR => ?_, fun hA hR => ?_⟩
    ·exact (word_none (g := g) (h := h) hp hq h1 hA hP hd hn1 hn7 hln hR).mono fun e w' hh => ⟨⟨none, 0, []⟩, hh.1, xFp _, hh.2⟩
    ·refine (rword_go (p := p) (g := g) (h := h) hq h1 hA hP hl hn1 hn7 hln hR).mono fun e w' hh => ?_
     rcases hh with ⟨hd', _⟩ | ⟨_, he, hR'⟩
     ·exact absurd hd' hd
     ·exact ⟨⟨none, 0, []⟩, he, xFp _, hR'⟩
  ·refine ⟨0, 1, fun _ => 0, Nat.zero_le _, fun j hj => absurd hj (Nat.not_lt_zero j), fun hA hR => ?_, fun hA hR => ?_⟩
   ·exact (word_arg (g := g) (h := h) hp hq hA hok hn1 hn7 hln hR).mono fun e w' hh => ⟨⟨none, 0, []⟩, hh.1, xFp _, hh.2⟩
   ·exact (rword_arg (p := p) (g := g) (h := h) hq hA hl hn1 hn7 hln hok hR).mono fun e w' hh => ⟨⟨none, 0, []⟩, hh.1, xFp _, hh.2⟩
end
end
section
attribute [local irreducible] Calls Instr.build Instr.buildSlice Instr.makeSlice
noncomputable def wErr (q n : Nat) : Int := by
 classical exact if 1 < q then (if difOK q n then 0 else 7) else 1
theorem wErr_0 {q n : Nat} (h1 : 1 < q) (hd : difOK q n) : wErr q n = 0 := by unfold wErr; rw [if_pos h1, if_pos hd]
theorem wErr_7 {q n : Nat} (h1 : 1 < q) (hd : ¬ difOK q n) : wErr q n = 7 := by unfold wErr; rw [if_pos h1, if_neg hd]
theorem wErr_1 {q n : Nat} (h1 : ¬ 1 < q) : wErr q n = 1 := by unfold wErr; rw [if_neg h1]
theorem wErr_is {q n : Nat} (h : wErr q n = 0) : 1 < q ∧ difOK q n := by
 by_cases h1 : 1 < q
 ·by_cases hd : difOK q n
  ·exact ⟨h1, hd⟩
  ·rw [wErr_7 h1 hd] at h; cases h
 ·rw [wErr_1 h1] at h; cases h
def chkRes (p q n : Nat) (V : Nat → Nat) (k : Nat) (s : Bool) (er : Int) : Prop :=
 (¬ (∀ j, j < n → mayG p (V j)) ∧ s = false ∧ er = 1) ∨ ((∀ j, j < n → mayG p (V j)) ∧ (k = n ∨ wErr q n = 0) ∧ (s = true ↔ ckAll p q n V k) ∧ er = 0) ∨ ((∀ j, j < n → mayG p (V j)) ∧ k < n ∧ wErr q n ≠ 0 ∧ s = false ∧ er = wErr q n)
theorem chkRes_ex (p q n : Nat) (V : Nat → Nat) {k : Nat} (hk : k ≤ n) : ∃ s er, chkRes p q n V k s er := by
 classical
 by_cases h1 : ∀ j, j < n → mayG p (V j)
 ·by_cases h2 : k = n ∨ wErr q n = 0
  ·exact ⟨decide (ckAll p q n V k), 0, .inr (.inl ⟨h1, h2, decide_eq_true_iff, rfl⟩)⟩
  ·exact ⟨false, wErr q n, .inr (.inr ⟨h1, by omega, fun h => h2 (.inr h), rfl, rfl⟩)⟩
 ·exact ⟨false, 1, .inl ⟨h1, rfl, rfl⟩⟩
section
variable {p q g h : Nat} {B0 : Nat} {w0 w : World} {L : List (Nat × Obj)} {a : Option Addr} {n cp k : Nat} {V : Nat → Nat}
theorem rcheck_bad (m : Int) (hbad : n < 1 ∨ 7 < n ∨ m < 1 ∨ (n : Int) < m) (hR : Rep B0 w0 L w) : Calls Tryz.prog 21 #[grp p q g h, .slice a n cp, .int .i64 m] w fun e w' => e = .returned (.tuple #[.bool false, .int .i64 1]) ∧ Rep B0 w0 L w' := by
 by_cases c1 : n < 1
 ·have d1 : decide ((n : Int) < 1) = true := decide_eq_true (by omega)
  clear hbad c1
  go_enter Tryz.func21, Tryz.ntmps21
  go_wp2_with (first | go_skip | (refine' aAq hR ?_; clear hR; intro blk w hR) | (refine' aBq hR ?_; clear hR; intro blk w hR) | (refine' aPq hR ?_) | (refine' aQq hR ?_) | (refine' aRq hR ?_) | (refine' aZq hR ?_; clear hR; intro w hR) | (refine' aAr hR ?_; clear hR; intro w hR) | (refine' aEr hR ?_) | (refine' aFr hR ?_) | (refine' aHr hR ?_) | fail)
  go_ret2
  exact ⟨rfl, hR.drop1⟩
 have d1 : decide ((n : Int) < 1) = false := decide_eq_false (by omega)
 have d1' : ¬ (n : Int) < 1 := by omega
 by_cases c2 : 7 < n
 ·have d2 : decide (7 < (n : Int)) = true := decide_eq_true (by omega)
  clear hbad c1 c2
  go_enter Tryz.func21, Tryz.ntmps21
  go_wp2_with (first | go_skip | (refine' aAq hR ?_; clear hR; intro blk w hR) | (refine' aBq hR ?_; clear hR; intro blk w hR) | (refine' aPq hR ?_) | (refine' aQq hR ?_) | (refine' aRq hR ?_) | (refine' aZq hR ?_; clear hR; intro w hR) | (refine' aAr hR ?_; clear hR; intro w hR) | (refine' aEr hR ?_) | (refine' aFr hR ?_) | (refine' aHr hR ?_) | fail)
  go_ret2
  exact ⟨rfl, hR.drop1⟩
 have d2 : decide (7 < (n : Int)) = false := decide_eq_false (by omega)
 have d2' : ¬ 7 < (n : Int) := by omega
 by_cases c3 : m < 1
 ·have d3 : decide (m < 1) = true := decide_eq_true c3
  clear hbad c1 c2
  go_enter Tryz.func21, Tryz.ntmps21
  go_wp2_with (first | go_skip | (refine' aAq hR ?_; clear hR; intro blk w hR) | (refine' aBq hR ?_; clear hR; intro blk w hR) | (refine' aPq hR ?_) | (refine' aQq hR ?_) | (refine' aRq hR ?_) | (refine' aZq hR ?_; clear hR; intro w hR) | (refine' aAr hR ?_; clear hR; intro w hR) | (refine' aEr hR ?_) | (refine' aFr hR ?_) | (refine' aHr hR ?_) | fail)
  go_ret2
  exact ⟨rfl, hR.drop1⟩
 have d3 : decide (m < 1) = false := decide_eq_false c3
 have c4 : (n : Int) < m := by omega
 have d4 : decide ((n : Int) < m) = true := decide_eq_true c4
 clear hbad c1 c2
 go_enter Tryz.func21, Tryz.ntmps21
 go_wp2_with (first | go_skip | (refine' aAq hR ?_; clear hR; intro blk w hR) | (refine' aBq hR ?_; clear hR; intro blk w hR) | (refine' aPq hR ?_) | (refine' aQq hR ?_) | (refine' aRq hR ?_) | (refine' aZq hR ?_; clear hR; intro w hR) | (refine' aAr hR ?_; clear hR; intro w hR) | (refine' aEr hR ?_) | (refine' aFr hR ?_) | (refine' aHr hR ?_) | fail)
 go_ret2
 exact ⟨rfl, hR.drop1⟩
theorem rcheck_any (hp : p < B) (hq : q < B) (hA : NAt B0 w0 [] a n cp V) (hn1 : 1 ≤ n) (hn7 : n ≤ 7) (hk1 : 1 ≤ k) (hkn : k ≤ n) {s : Bool} {er : Int} (hs : chkRes p q n V k s er) (hR : Rep B0 w0 L w) :
  Calls Tryz.prog 21 #[grp p q g h, .slice a n cp, .int .i64 (k : Int)] w fun e w' => e = .returned (.tuple #[.bool s, .int .i64 er]) ∧ Rep B0 w0 L w' := by
 have d1 : decide ((n : Int) < 1) = false := decide_eq_false (by omega)
 have d1' : ¬ (n : Int) < 1 := by omega
 have d2 : decide (7 < (n : Int)) = false := decide_eq_false (by omega)
 have d2' : ¬ 7 < (n : Int) := by omega
 have d3 : decide ((k : Int) < 1) = false := decide_eq_false (by omega)
 have d3' : ¬ (k : Int) < 1 := by omega
 have d4 : decide ((n : Int) < (k : Int)) = false := decide_eq_false (by omega)
 have d4' : ¬ (n : Int) < (k : Int) := by omega
 replace hs := Held.mk hs
 replace hA := Held.mk hA
 replace hk1 := Held.mk hk1
 go_enter Tryz.func21, Tryz.ntmps21
 go_wp2_with (first | go_skip | (refine' aAq hR ?_; clear hR; intro blk w hR) | (refine' aBq hR ?_; clear hR; intro blk w hR) | (refine' aPq hR ?_) | (refine' aQq hR ?_) | (refine' aRq hR ?_) | (refine' aZq hR ?_; clear hR; intro w hR) | (refine' aAr hR ?_; clear hR; intro w hR) | (refine' aEr hR ?_) | (refine' aFr hR ?_) | (refine' aHr hR ?_) | fail)
 clear d1 d1' d2 d2' d3 d3' d4 d4'
 obtain ⟨b3, hb3⟩ : ∃ z, z = blk := ⟨_, rfl⟩
 subst hb3
 try simp only [Act.put, kA, kB, List.setIfInBounds_toArray]
 refine' xBh (false :: false :: false :: false :: false :: false :: false :: false :: false :: false :: false :: false :: false :: false :: false :: false :: false :: false :: false :: false :: false :: false :: false :: false :: false :: false :: false :: false :: false :: false :: false :: false :: false :: false :: true :: true :: true :: true :: true :: true :: true :: true :: true :: true :: true :: true :: true :: false :: false :: false :: false :: false :: false :: false :: false :: false :: false :: false :: false :: false :: false :: false :: false :: false :: false :: false :: false :: false :: false :: false :: false :: false :: false :: false :: false :: false :: false :: false :: false :: false :: false :: false :: false :: false :: false :: false :: false :: false :: false :: []) (fun (v : Nat) l => l.set 8 (.int .i64 (v : Int))) (fun v => (b3, .cells (gl p q g h).toArray 26) :: L) (fun v => n - v) (fun v => v ≤ n ∧ ∀ j, j < v → mayG p (V j)) 0 ?h0 ?hO ?hR ?hs
 case h0 => exact xAn rfl rfl rfl
 case hO => exact ⟨Nat.zero_le _, fun j hj => absurd hj (Nat.not_lt_zero j)⟩
 case hR => exact hR
 case hs =>
  clear hR
  intro i tm w hO ht hR K hK
  obtain ⟨hi, hmay⟩ := hO
  have g0 : 0 ≤ (i : Int) := by omega
  by_cases hik : i = n
  case neg =>
   have hin : i < n := by omega
   have t1 : (i : Int) < (n : Int) := by omega
   have ei : IntKind.i64.wrap ((i : Int) + 1) = ((i + 1 : Nat) : Int) := by rw [IntKind.wrap_i64]; omega
   have hi1 : i + 1 ≤ n := by omega
   have hmu : n - (i + 1) < n - i := by omega
   obtain ⟨bv, ov, rfl, hyv⟩ := hA.out.at' (by omega)
   have ldv := fun (L : List (Nat × Obj)) (w : World) (hw : Rep B0 w0 L w) => xBt (hyv w (hw.weaken (List.nil_sublist _)) i hin)
   have lv := hA.out.lt i hin
   by_cases hm : mayG p (V i)
   ·have cm := fun w => rmay_lit (p := p) (q := q) (g := g) (h := h) (s := true) hp lv (decide_eq_true hm) w
    have hnx : ∀ j, j < i + 1 → mayG p (V j) := fun j hj => by
     by_cases e : j = i
     ·rw [e]; exact hm
     ·exact hmay j (by omega)
    replace hnx := Held.mk hnx
    replace hi1 := Held.mk hi1
    replace hmu := Held.mk hmu
    generalize V i = vv at *
    clear hi hik hyv hin hA hm hs hmay lv
    repeat (first | (obtain ⟨x, tm', e, ht'⟩ := xAg ht; clear ht; subst e; have ht := ht'; clear ht') | (obtain ⟨tm', e, ht'⟩ := xAd ht; clear ht; subst e; have ht := ht'; clear ht'))
    obtain rfl := xAl ht
    clear ht
    go_wp2_with (first | go_skip | (refine' aAq hR ?_; clear hR; intro blk w hR) | (refine' aBq hR ?_; clear hR; intro blk w hR) | (refine' aPq hR ?_) | (refine' aQq hR ?_) | (refine' aRq hR ?_) | (refine' aZq hR ?_; clear hR; intro w hR) | (refine' aAr hR ?_; clear hR; intro w hR) | (refine' aEr hR ?_) | (refine' aFr hR ?_) | (refine' aHr hR ?_) | fail)
    refine xAe hR [0, 0, 0, 0, 0, 0, 0] [] xBo (by kernel_rfl) rfl rfl (fun K hK => ?_)
    clear hR
    repeat ((first | (refine xAy ?_) | (refine' xAk (by decide) rfl (.inl rfl) rfl ?ha ?_) | (refine' xAk (by decide) rfl (.inr rfl) rfl ?ha ?_) | (refine' aSq ?ha ?_) | (refine' aTq ?ha ?_) | (refine' aUq ?ha ?_) | (refine' aVq ?ha ?_) | (refine' aWq ?ha ?_) | ((first | refine' xAc (by decide) rfl rfl rfl rfl (fun w => ?hq) ?ha ?_ | refine' xAs (by decide) rfl rfl rfl rfl (fun w => ?hq) ?ha ?_ | refine' xAi (by decide) rfl rfl rfl (fun w => ?hq) ?ha ?_ | refine' xAb (by decide) rfl rfl rfl (fun w => ?hq) ?ha ?_ | refine' xAh (by decide) rfl rfl rfl (fun w => ?hq) ?ha ?_ | refine' xAq (by decide) rfl rfl rfl rfl (fun w => ?hq) ?ha ?_ | refine' xAr (by decide) rfl rfl rfl rfl rfl rfl (fun w => ?hq) ?ha ?_ | refine' xAo (by decide) rfl rfl (fun w => ?hq) ?ha ?_ | refine' xAj (by decide) rfl rfl rfl (fun w => ?hq) ?ha ?_ | refine' xAp (by decide) rfl rfl rfl (fun w => ?hq) ?ha ?_); (case hq => go_simp; try rfl)) | (refine' xAf (by decide) rfl rfl rfl ?ha ?_) | (refine' xAx (by decide) rfl rfl rfl rfl ?ha ?_) | (refine' xAw (by decide) rfl ?ha ?_) | (refine' xBl rfl rfl rfl (ldv _) ?ha ?_; (case ha => simp only [kP, kQ, kA, kB]; try rfl)) | (refine' xAt rfl rfl rfl (xAv Tryz.func112 (by kernel_rfl) (by kernel_rfl) _) (fun w => cm w) ?ha ?_) | (refine' xFi (by decide) rfl rfl rfl (fun w => ?hq) ?ha ?_; (case hq => go_simp; try rfl); (case ha => simp only [kP, kQ, kA, kB]; try rfl))); try (case ha => simp only [kP, kQ, kA, kB]; try rfl))
    refine xBb (hK _ _ ?_)
    clear hK K
    refine xBe (fun Q hQ => ?_)
    try simp only [List.nil_append, List.cons_append]
    repeat ((first | refine' xAm rfl (.inl rfl) rfl ?hk ?ha ?_ | refine' xAm rfl (.inr rfl) rfl ?hk ?ha ?_ | (refine' aBr ?hk ?ha ?_) | (refine' aCr ?hk ?ha ?_) | (refine' aDr ?hk ?ha ?_) | (refine' xAz rfl (fun w => ?hq) ?hk ?ha ?_; (case hq => go_simp; try rfl))); (case hk => intro p hp; first | exact absurd hp List.not_mem_nil | (obtain rfl := List.mem_singleton.1 hp; repeat (first | exact List.Mem.head _ | with_reducible assumption | apply mC))); (case ha => simp only [kP, kQ, kA, kB]; try rfl))
    refine xBd (fun w hR => hQ _ _ ?_)
    clear hQ Q
    go_wp2_with (first | go_skip | (refine' aAq hR ?_; clear hR; intro blk w hR) | (refine' aBq hR ?_; clear hR; intro blk w hR) | (refine' aPq hR ?_) | (refine' aQq hR ?_) | (refine' aRq hR ?_) | (refine' aZq hR ?_; clear hR; intro w hR) | (refine' aAr hR ?_; clear hR; intro w hR) | (refine' aEr hR ?_) | (refine' aFr hR ?_) | (refine' aHr hR ?_) | fail)
    exact hK.out (i + 1) _ _ ⟨hi1.out, hnx.out⟩ hmu.out (xAn rfl rfl rfl) hR
   ·have cm := fun w => rmay_lit (p := p) (q := q) (g := g) (h := h) (s := false) hp lv (decide_eq_false hm) w
    obtain ⟨rfl, rfl⟩ : s = false ∧ er = 1 := by
     rcases hs.out with ⟨_, h1, h2⟩ | ⟨h1, _⟩ | ⟨h1, _⟩
     ·exact ⟨h1, h2⟩
     ·exact absurd (h1 i hin) hm
     ·exact absurd (h1 i hin) hm
    generalize V i = vv at *
    clear hi hik hyv hin hA hm hs hmay lv hK
    repeat (first | (obtain ⟨x, tm', e, ht'⟩ := xAg ht; clear ht; subst e; have ht := ht'; clear ht') | (obtain ⟨tm', e, ht'⟩ := xAd ht; clear ht; subst e; have ht := ht'; clear ht'))
    obtain rfl := xAl ht
    clear ht
    go_wp2_with (first | go_skip | (refine' aAq hR ?_; clear hR; intro blk w hR) | (refine' aBq hR ?_; clear hR; intro blk w hR) | (refine' aPq hR ?_) | (refine' aQq hR ?_) | (refine' aRq hR ?_) | (refine' aZq hR ?_; clear hR; intro w hR) | (refine' aAr hR ?_; clear hR; intro w hR) | (refine' aEr hR ?_) | (refine' aFr hR ?_) | (refine' aHr hR ?_) | fail)
    refine xAe hR [0, 0, 0, 0, 0, 0, 0] [] xBo (by kernel_rfl) rfl rfl (fun K hK => ?_)
    clear hR
    repeat ((first | (refine xAy ?_) | (refine' xAk (by decide) rfl (.inl rfl) rfl ?ha ?_) | (refine' xAk (by decide) rfl (.inr rfl) rfl ?ha ?_) | (refine' aSq ?ha ?_) | (refine' aTq ?ha ?_) | (refine' aUq ?ha ?_) | (refine' aVq ?ha ?_) | (refine' aWq ?ha ?_) | ((first | refine' xAc (by decide) rfl rfl rfl rfl (fun w => ?hq) ?ha ?_ | refine' xAs (by decide) rfl rfl rfl rfl (fun w => ?hq) ?ha ?_ | refine' xAi (by decide) rfl rfl rfl (fun w => ?hq) ?ha ?_ | refine' xAb (by decide) rfl rfl rfl (fun w => ?hq) ?ha ?_ | refine' xAh (by decide) rfl rfl rfl (fun w => ?hq) ?ha ?_ | refine' xAq (by decide) rfl rfl rfl rfl (fun w => ?hq) ?ha ?_ | refine' xAr (by decide) rfl rfl rfl rfl rfl rfl (fun w => ?hq) ?ha ?_ | refine' xAo (by decide) rfl rfl (fun w => ?hq) ?ha ?_ | refine' xAj (by decide) rfl rfl rfl (fun w => ?hq) ?ha ?_ | refine' xAp (by decide) rfl rfl rfl (fun w => ?hq) ?ha ?_); (case hq => go_simp; try rfl)) | (refine' xAf (by decide) rfl rfl rfl ?ha ?_) | (refine' xAx (by decide) rfl rfl rfl rfl ?ha ?_) | (refine' xAw (by decide) rfl ?ha ?_) | (refine' xBl rfl rfl rfl (ldv _) ?ha ?_; (case ha => simp only [kP, kQ, kA, kB]; try rfl)) | (refine' xAt rfl rfl rfl (xAv Tryz.func112 (by kernel_rfl) (by kernel_rfl) _) (fun w => cm w) ?ha ?_) | (refine' xFi (by decide) rfl rfl rfl (fun w => ?hq) ?ha ?_; (case hq => go_simp; try rfl); (case ha => simp only [kP, kQ, kA, kB]; try rfl))); try (case ha => simp only [kP, kQ, kA, kB]; try rfl))
    refine xBb (hK _ _ ?_)
    clear hK K
    refine xBe (fun Q hQ => ?_)
    try simp only [List.nil_append, List.cons_append]
    repeat ((first | refine' xAm rfl (.inl rfl) rfl ?hk ?ha ?_ | refine' xAm rfl (.inr rfl) rfl ?hk ?ha ?_ | (refine' aBr ?hk ?ha ?_) | (refine' aCr ?hk ?ha ?_) | (refine' aDr ?hk ?ha ?_) | (refine' xAz rfl (fun w => ?hq) ?hk ?ha ?_; (case hq => go_simp; try rfl))); (case hk => intro p hp; first | exact absurd hp List.not_mem_nil | (obtain rfl := List.mem_singleton.1 hp; repeat (first | exact List.Mem.head _ | with_reducible assumption | apply mC))); (case ha => simp only [kP, kQ, kA, kB]; try rfl))
    refine xBd (fun w hR => hQ _ _ ?_)
    clear hQ Q
    go_wp2_with (first | go_skip | (refine' aAq hR ?_; clear hR; intro blk w hR) | (refine' aBq hR ?_; clear hR; intro blk w hR) | (refine' aPq hR ?_) | (refine' aQq hR ?_) | (refine' aRq hR ?_) | (refine' aZq hR ?_; clear hR; intro w hR) | (refine' aAr hR ?_; clear hR; intro w hR) | (refine' aEr hR ?_) | (refine' aFr hR ?_) | (refine' aHr hR ?_) | fail)
    go_ret2
    exact ⟨rfl, hR.drop1⟩
  subst hik
  have t1 : ¬ (i : Int) < (i : Int) := by omega
  have hs2 : ((k = i ∨ wErr q i = 0) ∧ (s = true ↔ ckAll p q i V k) ∧ er = 0) ∨ (k < i ∧ wErr q i ≠ 0 ∧ s = false ∧ er = wErr q i) := by
   rcases hs.out with ⟨h1, _⟩ | ⟨_, h1⟩ | ⟨_, h1⟩
   ·exact absurd hmay h1
   ·exact .inl h1
   ·exact .inr h1
  have esub : IntKind.i64.wrap ((i : Int) - (k : Int)) = ((i - k : Nat) : Int) := by rw [IntKind.wrap_i64]; omega
  replace hs2 := Held.mk hs2
  replace hmay := Held.mk hmay
  clear hK hi hs
  repeat (first | (obtain ⟨x, tm', e, ht'⟩ := xAg ht; clear ht; subst e; have ht := ht'; clear ht') | (obtain ⟨tm', e, ht'⟩ := xAd ht; clear ht; subst e; have ht := ht'; clear ht'))
  obtain rfl := xAl ht
  clear ht
  go_wp2_with (first | go_skip | (refine' aAq hR ?_; clear hR; intro blk w hR) | (refine' aBq hR ?_; clear hR; intro blk w hR) | (refine' aPq hR ?_) | (refine' aQq hR ?_) | (refine' aRq hR ?_) | (refine' aZq hR ?_; clear hR; intro w hR) | (refine' aAr hR ?_; clear hR; intro w hR) | (refine' aEr hR ?_) | (refine' aFr hR ?_) | (refine' aHr hR ?_) | fail)
  try simp only [Act.put, kA, kB, List.setIfInBounds_toArray]
  refine' xBh (false :: false :: false :: false :: false :: false :: false :: false :: false :: false :: false :: true :: true :: true :: true :: true :: false :: false :: false :: false :: false :: false :: false :: false :: false :: false :: false :: false :: false :: false :: false :: false :: false :: false :: false :: false :: false :: false :: false :: false :: false :: false :: false :: false :: false :: false :: false :: true :: true :: true :: true :: true :: true :: true :: true :: true :: true :: true :: true :: true :: true :: true :: true :: true :: true :: true :: true :: true :: true :: true :: true :: true :: true :: true :: true :: true :: true :: true :: true :: true :: true :: true :: true :: true :: true :: true :: true :: true :: true :: []) (fun (v : Nat × Bool) l => (l.set 10 (.int .i64 (v.1 : Int))).set 9 (.bool v.2)) (fun v => (b3, .cells (gl p q g h).toArray 26) :: L) (fun v => (i - k) - v.1) (fun v => v.1 ≤ i - k ∧ (v.1 = 0 ∨ wErr q i = 0) ∧ (v.2 = true ↔ ∀ kk, kk < v.1 → ckT p q i V kk = 1)) (0, true) ?u0 ?uO ?uR ?us
  case u0 => exact xAn rfl rfl rfl
  case uO => exact ⟨Nat.zero_le _, .inl rfl, ⟨fun _ kk hkk => absurd hkk (Nat.not_lt_zero kk), fun _ => rfl⟩⟩
  case uR => exact hR
  case us =>
   clear hR
   intro v tm w hO ht hR K hK
   obtain ⟨j, okb⟩ := v
   obtain ⟨hj, h0, hok⟩ := hO
   simp only at hj h0 hok ht hR
   have g1 : 0 ≤ (j : Int) := by omega
   by_cases hjk : j = i - k
   ·have u1 : ¬ (j : Int) < ((i - k : Nat) : Int) := by omega
    obtain ⟨rfl, rfl⟩ : s = okb ∧ er = 0 := by
     rcases hs2.out with ⟨_, h2, h3⟩ | ⟨h1, h2, _⟩
     ·refine ⟨?_, h3⟩
      rw [hjk] at hok
      have : s = true ↔ okb = true := h2.trans hok.symm
      cases s <;> cases okb <;> simp_all
     ·rcases h0 with h0 | h0
      ·omega
      ·exact absurd h0 h2
    clear hK hs2 hok h0
    repeat (first | (obtain ⟨x, tm', e, ht'⟩ := xAg ht; clear ht; subst e; have ht := ht'; clear ht') | (obtain ⟨tm', e, ht'⟩ := xAd ht; clear ht; subst e; have ht := ht'; clear ht'))
    obtain rfl := xAl ht
    clear ht
    go_wp2_with (first | go_skip | (refine' aAq hR ?_; clear hR; intro blk w hR) | (refine' aBq hR ?_; clear hR; intro blk w hR) | (refine' aPq hR ?_) | (refine' aQq hR ?_) | (refine' aRq hR ?_) | (refine' aZq hR ?_; clear hR; intro w hR) | (refine' aAr hR ?_; clear hR; intro w hR) | (refine' aEr hR ?_) | (refine' aFr hR ?_) | (refine' aHr hR ?_) | fail)
    go_ret2
    exact ⟨rfl, hR.drop1⟩
   have u1 : (j : Int) < ((i - k : Nat) : Int) := by omega
   have ej : IntKind.i64.wrap ((j : Int) + 1) = ((j + 1 : Nat) : Int) := by rw [IntKind.wrap_i64]; omega
   have hjM : j + 1 ≤ 1000000 := by omega
   have hj1 : j + 1 ≤ i - k := by omega
   have hmu : (i - k) - (j + 1) < (i - k) - j := by omega
   have v1 : 0 ≤ ((j + 1 : Nat) : Int) := by omega
   have v2 : (j : Int) < ((j + 1 : Nat) : Int) := by omega
   have hk1' := hk1.out
   have hji : j + 1 < i := by omega
   have hki : k < i := by omega
   obtain ⟨o1, ho1⟩ : ∃ v, sOf q 1 = v := ⟨_, rfl⟩
   have lo1 : o1 < B := by
    rw [← ho1, xGz]
    split
    ·exact xEs
    ·exact Nat.lt_trans (by have := Int.emod_lt_of_pos (1 : Int) (show (0 : Int) < (q : Int) by omega); have := Int.emod_nonneg (1 : Int) (show (q : Int) ≠ 0 by omega); omega) hq
   have cO := fun w => rsof_any p q g h 1 hq (by decide) (by decide) w
   rw [ho1] at cO
   have hset : ∀ t, t < j + 1 → mono q j t = if t = j then o1 else 0 := fun t ht => by
    unfold mono
    by_cases h2 : t = j
    ·rw [if_pos h2, if_neg (by omega), ho1]
    ·rw [if_neg h2, if_pos (by omega)]
   have hrs := xEn (f := fun _ => 0) (f' := mono q j) (n := j + 1) (i := j) (v := o1) (by omega) hset
   have hlen : j * 4 + 4 ≤ (xBy (fun _ => 0) (j + 1)).length := by rw [xBf]; omega
   have lmo : ∀ t, t < j + 1 → mono q j t < B := fun t ht => by
    rw [hset t ht]
    split
    ·exact lo1
    ·exact xEs
   have pA := fun (gp : Nat) => (xFv (f := mono q j) (n := j + 1) hjM).at (B0 := B0) (w0 := w0) (L := (gp, Obj.cells (xBy (mono q j) (j + 1)).toArray 24) :: (b3, .cells (gl p q g h).toArray 26) :: L) (.head _) (Nat.le_refl _) lmo
   by_cases hwe : wErr q i = 0
   case neg =>
    obtain ⟨rfl, her⟩ : s = false ∧ er = wErr q i := by
     rcases hs2.out with ⟨h1 | h1, _⟩ | ⟨_, _, h3, h4⟩
     ·omega
     ·exact absurd h1 hwe
     ·exact ⟨h3, h4⟩
    have cW : ∀ (gp : Nat) (w : World), Rep B0 w0 ((gp, Obj.cells (xBy (mono q j) (j + 1)).toArray 24) :: (b3, .cells (gl p q g h).toArray 26) :: L) w → Calls Tryz.prog 19 #[grp p q g h, .int .i64 (i : Int), .slice (some ⟨gp, 0, none⟩) (j + 1 : Nat) (j + 1 : Nat)] w fun e w' => e = .returned (.tuple #[.slice none 0 0, .int .i64 (wErr q i)]) ∧ Rep B0 w0 ((gp, Obj.cells (xBy (mono q j) (j + 1)).toArray 24) :: (b3, .cells (gl p q g h).toArray 26) :: L) w' := fun gp w hw => by
     by_cases hq1 : 1 < q
     ·have hd : ¬ difOK q i := fun hd => hwe (wErr_0 hq1 hd)
      refine (rword_go (p := p) (g := g) (h := h) hq hq1 (pA gp) (fun t _ => mono_lt hq1 j t) (by omega) hn1 hn7 hji hw).mono fun e w' hh => ?_
      rcases hh with ⟨hd', _⟩ | ⟨_, he, hw'⟩
      ·exact absurd hd' hd
      ·rw [wErr_7 hq1 hd]; exact ⟨he, hw'⟩
     ·rw [wErr_1 hq1]
      exact rword_arg (p := p) (g := g) (h := h) hq (pA gp) (by omega) hn1 hn7 hji (fun hh => hq1 hh.1) hw
    rw [← her] at cW hwe
    have e1 : (er != 0) = true := by simp [hwe]
    have e2 : (er == 0) = false := by simp [hwe]
    replace her := Held.mk her
    replace hrs := Held.mk hrs
    replace hlen := Held.mk hlen
    replace hset := Held.mk hset
    clear hj hjk hK hs2 hok h0 hA hmay pA lmo hj1 hmu hji hki
    repeat (first | (obtain ⟨x, tm', e, ht'⟩ := xAg ht; clear ht; subst e; have ht := ht'; clear ht') | (obtain ⟨tm', e, ht'⟩ := xAd ht; clear ht; subst e; have ht := ht'; clear ht'))
    obtain rfl := xAl ht
    clear ht
    go_wp2_with (first | go_skip | (refine' xCj (l := xBy (fun _ => 0) (j + 1)) (l' := xBy (mono q j) (j + 1)) (vs := nl o1) hR rfl rfl rfl inferInstance rfl rfl rfl .head hlen.out hrs.out ?_; clear hR; intro w hR) | (refine' aAq hR ?_; clear hR; intro blk w hR) | (refine' aBq hR ?_; clear hR; intro blk w hR) | (refine' aPq hR ?_) | (refine' aQq hR ?_) | (refine' aRq hR ?_) | (refine' aZq hR ?_; clear hR; intro w hR) | (refine' aAr hR ?_; clear hR; intro w hR) | (refine' aEr hR ?_) | (refine' aFr hR ?_) | (refine' aHr hR ?_) | (refine' xCk hR (xDl rfl rfl rfl rfl hjM) ?_; clear hR; intro gp w hR) | (go_at_call 42; refine (cO _).mono ?_; rintro e w ⟨rfl, hb⟩; replace hR := hR.call hb; clear hb) | (go_at_call 19; refine (cW _ _ hR).mono ?_; clear hR; rintro e w ⟨rfl, hR⟩))
    go_ret2
    exact ⟨rfl, hR.drop1.drop1⟩
   obtain ⟨hq1, hd⟩ := wErr_is hwe
   have cW : ∀ (gp : Nat) (w : World), Rep B0 w0 ((gp, Obj.cells (xBy (mono q j) (j + 1)).toArray 24) :: (b3, .cells (gl p q g h).toArray 26) :: L) w → Calls Tryz.prog 19 #[grp p q g h, .int .i64 (i : Int), .slice (some ⟨gp, 0, none⟩) (j + 1 : Nat) (j + 1 : Nat)] w fun e w' => ∃ X : GrN, e = .returned (.tuple #[.slice X.a i X.cap, .int .i64 0]) ∧ GrNOk X i (xFg q i (j + 1) (mono q j)) ∧ Rep B0 w0 ((gp, Obj.cells (xBy (mono q j) (j + 1)).toArray 24) :: (b3, .cells (gl p q g h).toArray 26) :: (X.bl ++ L)) w' := fun gp w hw =>
    (rword_go (p := p) (g := g) (h := h) hq hq1 (pA gp) (fun t _ => mono_lt hq1 j t) (by omega) hn1 hn7 hji hw).mono fun e w' hh => by
     rcases hh with ⟨_, X, he, hX, hw'⟩ | ⟨hd', _⟩
     ·exact ⟨X, he, hX, hw'.permN (List.perm_append_comm_assoc X.bl [_, _] L)⟩
     ·exact absurd hd hd'
   obtain ⟨T, hT⟩ : ∃ T, ckT p q i V j = T := ⟨_, rfl⟩
   have h1p : 1 < p := (hmay.out 0 (by omega)).1
   have lT : T < B := by rw [← hT]; exact Nat.lt_trans (prodL_lt h1p _) hp
   have lwd : ∀ t, t < i → xFg q i (j + 1) (mono q j) t < B := fun t _ => Nat.lt_trans (wordF_lt hq1 t) hq
   have ezs : ∀ t, t < i → zsP V (xFg q i (j + 1) (mono q j)) t = zsC V (xFg q i (j + 1) (mono q j)) t := fun t ht => Subtype.ext (by rw [zsP_is (hA.out.lt t ht) (lwd t ht), zsC_1 (hA.out.lt t ht) (lwd t ht)])
   have eup : up (zsP V (xFg q i (j + 1) (mono q j))) i = up (zsC V (xFg q i (j + 1) (mono q j))) i := by
    unfold up
    exact List.map_congr_left fun t ht => ezs t (List.mem_range.1 ht)
   have hpr : prodRes p i i (zsP V (xFg q i (j + 1) (mono q j))) T 0 := .inl ⟨⟨h1p, rfl, fun x hx => by
    unfold up at hx
    obtain ⟨t, ht, rfl⟩ := List.mem_map.1 hx
    rw [zsP_is (hA.out.lt t (List.mem_range.1 ht)) (lwd t (List.mem_range.1 ht))]
    exact hmay.out t (List.mem_range.1 ht)⟩, by rw [eup, ← hT]; rfl, rfl⟩
   have cP := fun {L' : List (Nat × Obj)} {aw : Option Addr} {cw : Nat} (hN : NAt B0 w0 L' aw i cw (xFg q i (j + 1) (mono q j))) (w : World) (hw : Rep B0 w0 L' w) => (rprod_any (g := g) (h := h) hp hq (hA.out.any.here hw) (hN.here hw) (by omega) (by omega) hpr).mono fun e w' hh => (⟨hh.1, hw.call hh.2⟩ : e = .returned (.tuple #[num T, .int .i64 0]) ∧ Rep B0 w0 L' w')
   have e1 : sOf q 1 = 1 := sOf_one hq1
   rw [e1] at ho1
   subst ho1
   replace hrs := Held.mk hrs
   replace hlen := Held.mk hlen
   replace hset := Held.mk hset
   replace lwd := Held.mk lwd
   replace hj1 := Held.mk hj1
   replace hmu := Held.mk hmu
   have hok2 : ∀ b : Bool, (b = true ↔ (okb = true ∧ T = 1)) → (b = true ↔ ∀ kk, kk < j + 1 → ckT p q i V kk = 1) := fun b hb => by
    rw [hb, hok]
    constructor
    ·rintro ⟨h1, h2⟩ kk hkk
     by_cases e : kk = j
     ·rw [e, hT, h2]
     ·exact h1 kk (by omega)
    ·intro h1
     exact ⟨fun kk hkk => h1 kk (by omega), by rw [← hT]; exact h1 j (Nat.lt_succ_self j)⟩
   replace hok2 := Held.mk hok2
   replace hwe := Held.mk hwe
   clear hj hjk hs2 hok h0 hA hmay pA lmo hji hki hT hpr eup ezs hd
   repeat (first | (obtain ⟨x, tm', e, ht'⟩ := xAg ht; clear ht; subst e; have ht := ht'; clear ht') | (obtain ⟨tm', e, ht'⟩ := xAd ht; clear ht; subst e; have ht := ht'; clear ht'))
   obtain rfl := xAl ht
   clear ht
   go_wp2_with (first | go_skip | (refine' xCj (l := xBy (fun _ => 0) (j + 1)) (l' := xBy (mono q j) (j + 1)) (vs := nl 1) hR rfl rfl rfl inferInstance rfl rfl rfl .head hlen.out hrs.out ?_; clear hR; intro w hR) | (refine' aAq hR ?_; clear hR; intro blk w hR) | (refine' aBq hR ?_; clear hR; intro blk w hR) | (refine' aPq hR ?_) | (refine' aQq hR ?_) | (refine' aRq hR ?_) | (refine' aZq hR ?_; clear hR; intro w hR) | (refine' aAr hR ?_; clear hR; intro w hR) | (refine' aEr hR ?_) | (refine' aFr hR ?_) | (refine' aHr hR ?_) | (refine' xCk hR (xDl rfl rfl rfl rfl hjM) ?_; clear hR; intro gp w hR) | (go_at_call 42; refine (cO _).mono ?_; rintro e w ⟨rfl, hb⟩; replace hR := hR.call hb; clear hb) | (go_at_call 19; refine (cW _ _ hR).mono ?_; clear hR; rintro e w ⟨Xw, rfl, hXw, hR⟩; replace hXw := Held.mk hXw) | (go_at_call 113; refine (cP (grN_nat hXw.out lwd.out (fun p hp => .tail _ (.tail _ (List.mem_append_left _ hp)))) _ hR).mono ?_; clear hR; rintro e w ⟨rfl, hR⟩))
   clear cW cP hrs hlen hset lwd hXw e1
   try simp only [Act.put, kA, kB, List.setIfInBounds_toArray]
   cases okb with
   | false =>
    have hb := hok2.out false ⟨fun hh => (nomatch hh), fun hh => (nomatch hh.1)⟩
    replace hb := Held.mk hb
    clear hok2
    refine xAe hR [0, 0, 0, 0, 0, 0, 0, 2] [] xBo (by kernel_rfl) rfl rfl (fun K hK => ?_)
    clear hR
    repeat ((first | (refine xAy ?_) | (refine' xAk (by decide) rfl (.inl rfl) rfl ?ha ?_) | (refine' xAk (by decide) rfl (.inr rfl) rfl ?ha ?_) | (refine' aSq ?ha ?_) | (refine' aTq ?ha ?_) | (refine' aUq ?ha ?_) | (refine' aVq ?ha ?_) | (refine' aWq ?ha ?_) | ((first | refine' xAc (by decide) rfl rfl rfl rfl (fun w => ?hq) ?ha ?_ | refine' xAs (by decide) rfl rfl rfl rfl (fun w => ?hq) ?ha ?_ | refine' xAi (by decide) rfl rfl rfl (fun w => ?hq) ?ha ?_ | refine' xAb (by decide) rfl rfl rfl (fun w => ?hq) ?ha ?_ | refine' xAh (by decide) rfl rfl rfl (fun w => ?hq) ?ha ?_ | refine' xAq (by decide) rfl rfl rfl rfl (fun w => ?hq) ?ha ?_ | refine' xAr (by decide) rfl rfl rfl rfl rfl rfl (fun w => ?hq) ?ha ?_ | refine' xAo (by decide) rfl rfl (fun w => ?hq) ?ha ?_ | refine' xAj (by decide) rfl rfl rfl (fun w => ?hq) ?ha ?_ | refine' xAp (by decide) rfl rfl rfl (fun w => ?hq) ?ha ?_); (case hq => go_simp; try rfl)) | (refine' xAf (by decide) rfl rfl rfl ?ha ?_) | (refine' xAx (by decide) rfl rfl rfl rfl ?ha ?_) | (refine' xAw (by decide) rfl ?ha ?_) | fail); try (case ha => simp only [kP, kQ, kA, kB]; try rfl))
    refine xBb (hK _ _ ?_)
    clear hK K
    refine xBe (fun Q hQ => ?_)
    try simp only [List.nil_append, List.cons_append]
    repeat ((first | refine' xAm rfl (.inl rfl) rfl ?hk ?ha ?_ | refine' xAm rfl (.inr rfl) rfl ?hk ?ha ?_ | (refine' aBr ?hk ?ha ?_) | (refine' aCr ?hk ?ha ?_) | (refine' aDr ?hk ?ha ?_) | (refine' xAz rfl (fun w => ?hq) ?hk ?ha ?_; (case hq => go_simp; try rfl))); (case hk => intro p hp; first | exact absurd hp List.not_mem_nil | (obtain rfl := List.mem_singleton.1 hp; repeat (first | exact List.Mem.head _ | with_reducible assumption | apply mC))); (case ha => simp only [kP, kQ, kA, kB]; try rfl))
    refine xBd (fun w hR => hQ _ _ ?_)
    clear hQ Q
    go_wp2_with (first | go_skip | (refine' aAq hR ?_; clear hR; intro blk w hR) | (refine' aBq hR ?_; clear hR; intro blk w hR) | (refine' aPq hR ?_) | (refine' aQq hR ?_) | (refine' aRq hR ?_) | (refine' aZq hR ?_; clear hR; intro w hR) | (refine' aAr hR ?_; clear hR; intro w hR) | (refine' aEr hR ?_) | (refine' aFr hR ?_) | (refine' aHr hR ?_) | fail)
    exact hK.out (j + 1, false) _ _ ⟨hj1.out, .inr hwe.out, hb.out⟩ hmu.out (xAn rfl rfl rfl) (hR.drop1.drop1.weaken ((List.sublist_append_right _ _).cons_cons _))
   | true =>
    by_cases hT1 : T = 1
    ·subst hT1
     have eT : eqN 1 1 = true := xFk rfl
     have hb := (hok2.out true ⟨fun _ => ⟨rfl, rfl⟩, fun _ => rfl⟩).1 rfl
     replace hb := Held.mk hb
     clear hok2
     refine xAe hR [0, 0, 0, 0, 0, 0, 0, 2] [] xBo (by kernel_rfl) rfl rfl (fun K hK => ?_)
     clear hR
     repeat ((first | (refine xAy ?_) | (refine' xAk (by decide) rfl (.inl rfl) rfl ?ha ?_) | (refine' xAk (by decide) rfl (.inr rfl) rfl ?ha ?_) | (refine' aSq ?ha ?_) | (refine' aTq ?ha ?_) | (refine' aUq ?ha ?_) | (refine' aVq ?ha ?_) | (refine' aWq ?ha ?_) | ((first | refine' xAc (by decide) rfl rfl rfl rfl (fun w => ?hq) ?ha ?_ | refine' xAs (by decide) rfl rfl rfl rfl (fun w => ?hq) ?ha ?_ | refine' xAi (by decide) rfl rfl rfl (fun w => ?hq) ?ha ?_ | refine' xAb (by decide) rfl rfl rfl (fun w => ?hq) ?ha ?_ | refine' xAh (by decide) rfl rfl rfl (fun w => ?hq) ?ha ?_ | refine' xAq (by decide) rfl rfl rfl rfl (fun w => ?hq) ?ha ?_ | refine' xAr (by decide) rfl rfl rfl rfl rfl rfl (fun w => ?hq) ?ha ?_ | refine' xAo (by decide) rfl rfl (fun w => ?hq) ?ha ?_ | refine' xAj (by decide) rfl rfl rfl (fun w => ?hq) ?ha ?_ | refine' xAp (by decide) rfl rfl rfl (fun w => ?hq) ?ha ?_); (case hq => go_simp; try rfl)) | (refine' xAf (by decide) rfl rfl rfl ?ha ?_) | (refine' xAx (by decide) rfl rfl rfl rfl ?ha ?_) | (refine' xAw (by decide) rfl ?ha ?_) | (refine' xAt rfl rfl rfl (xAv Tryz.func42 (by kernel_rfl) (by kernel_rfl) _) (fun w => cO w) ?ha ?_)); try (case ha => simp only [kP, kQ, kA, kB]; try rfl))
     refine xBb (hK _ _ ?_)
     clear hK K
     refine xBe (fun Q hQ => ?_)
     try simp only [List.nil_append, List.cons_append]
     repeat ((first | refine' xAm rfl (.inl rfl) rfl ?hk ?ha ?_ | refine' xAm rfl (.inr rfl) rfl ?hk ?ha ?_ | (refine' aBr ?hk ?ha ?_) | (refine' aCr ?hk ?ha ?_) | (refine' aDr ?hk ?ha ?_) | (refine' xAz rfl (fun w => ?hq) ?hk ?ha ?_; (case hq => go_simp; try rfl))); (case hk => intro p hp; first | exact absurd hp List.not_mem_nil | (obtain rfl := List.mem_singleton.1 hp; repeat (first | exact List.Mem.head _ | with_reducible assumption | apply mC))); (case ha => simp only [kP, kQ, kA, kB]; try rfl))
     refine xBd (fun w hR => hQ _ _ ?_)
     clear hQ Q
     go_wp2_with (first | go_skip | (refine' aAq hR ?_; clear hR; intro blk w hR) | (refine' aBq hR ?_; clear hR; intro blk w hR) | (refine' aPq hR ?_) | (refine' aQq hR ?_) | (refine' aRq hR ?_) | (refine' aZq hR ?_; clear hR; intro w hR) | (refine' aAr hR ?_; clear hR; intro w hR) | (refine' aEr hR ?_) | (refine' aFr hR ?_) | (refine' aHr hR ?_) | fail)
     exact hK.out (j + 1, true) _ _ ⟨hj1.out, .inr hwe.out, fun _ => hb.out, fun _ => rfl⟩ hmu.out (xAn rfl rfl rfl) (hR.drop1.drop1.weaken ((List.sublist_append_right _ _).cons_cons _))
    ·have eT : eqN T 1 = false := xDk lT (lt_B (by decide)) hT1
     have hb := hok2.out false ⟨fun hh => (nomatch hh), fun hh => absurd hh.2 hT1⟩
     replace hb := Held.mk hb
     clear hok2
     refine xAe hR [0, 0, 0, 0, 0, 0, 0, 2] [] xBo (by kernel_rfl) rfl rfl (fun K hK => ?_)
     clear hR
     repeat ((first | (refine xAy ?_) | (refine' xAk (by decide) rfl (.inl rfl) rfl ?ha ?_) | (refine' xAk (by decide) rfl (.inr rfl) rfl ?ha ?_) | (refine' aSq ?ha ?_) | (refine' aTq ?ha ?_) | (refine' aUq ?ha ?_) | (refine' aVq ?ha ?_) | (refine' aWq ?ha ?_) | ((first | refine' xAc (by decide) rfl rfl rfl rfl (fun w => ?hq) ?ha ?_ | refine' xAs (by decide) rfl rfl rfl rfl (fun w => ?hq) ?ha ?_ | refine' xAi (by decide) rfl rfl rfl (fun w => ?hq) ?ha ?_ | refine' xAb (by decide) rfl rfl rfl (fun w => ?hq) ?ha ?_ | refine' xAh (by decide) rfl rfl rfl (fun w => ?hq) ?ha ?_ | refine' xAq (by decide) rfl rfl rfl rfl (fun w => ?hq) ?ha ?_ | refine' xAr (by decide) rfl rfl rfl rfl rfl rfl (fun w => ?hq) ?ha ?_ | refine' xAo (by decide) rfl rfl (fun w => ?hq) ?ha ?_ | refine' xAj (by decide) rfl rfl rfl (fun w => ?hq) ?ha ?_ | refine' xAp (by decide) rfl rfl rfl (fun w => ?hq) ?ha ?_); (case hq => go_simp; try rfl)) | (refine' xAf (by decide) rfl rfl rfl ?ha ?_) | (refine' xAx (by decide) rfl rfl rfl rfl ?ha ?_) | (refine' xAw (by decide) rfl ?ha ?_) | (refine' xAt rfl rfl rfl (xAv Tryz.func42 (by kernel_rfl) (by kernel_rfl) _) (fun w => cO w) ?ha ?_)); try (case ha => simp only [kP, kQ, kA, kB]; try rfl))
     refine xBb (hK _ _ ?_)
     clear hK K
     refine xBe (fun Q hQ => ?_)
     try simp only [List.nil_append, List.cons_append]
     repeat ((first | refine' xAm rfl (.inl rfl) rfl ?hk ?ha ?_ | refine' xAm rfl (.inr rfl) rfl ?hk ?ha ?_ | (refine' aBr ?hk ?ha ?_) | (refine' aCr ?hk ?ha ?_) | (refine' aDr ?hk ?ha ?_) | (refine' xAz rfl (fun w => ?hq) ?hk ?ha ?_; (case hq => go_simp; try rfl))); (case hk => intro p hp; first | exact absurd hp List.not_mem_nil | (obtain rfl := List.mem_singleton.1 hp; repeat (first | exact List.Mem.head _ | with_reducible assumption | apply mC))); (case ha => simp only [kP, kQ, kA, kB]; try rfl))
     refine xBd (fun w hR => hQ _ _ ?_)
     clear hQ Q
     go_wp2_with (first | go_skip | (refine' aAq hR ?_; clear hR; intro blk w hR) | (refine' aBq hR ?_; clear hR; intro blk w hR) | (refine' aPq hR ?_) | (refine' aQq hR ?_) | (refine' aRq hR ?_) | (refine' aZq hR ?_; clear hR; intro w hR) | (refine' aAr hR ?_; clear hR; intro w hR) | (refine' aEr hR ?_) | (refine' aFr hR ?_) | (refine' aHr hR ?_) | fail)
     exact hK.out (j + 1, false) _ _ ⟨hj1.out, .inr hwe.out, hb.out⟩ hmu.out (xAn rfl rfl rfl) (hR.drop1.drop1.weaken ((List.sublist_append_right _ _).cons_cons _))
end
end
section
attribute [local irreducible] Calls Instr.build Instr.buildSlice Instr.makeSlice
section
variable {B0 : Nat} {w0 w W : World} {L : List (Nat × Obj)} {p q g h n cp k : Nat} {a : Option Addr} {V : Nat → Nat}
theorem check1_may (hp : p < B) (hA : NAt B0 w0 [] a n cp V) (hno : ¬ ∀ j, j < n → mayG p (V j)) (hn7 : n ≤ 7) {b5 b4 b3 : Nat} (M : List (Nat × Obj)) (hR : Rep B0 w0 (M ++ cL p q g h n cp a k b5 b4 b3) w) :
  Calls Tryz.prog 109 #[.pointer (some ⟨b4, 0, none⟩), .pointer (some ⟨b3, 0, none⟩), .pointer (some ⟨b5, 0, none⟩)] w fun e w' => e = .panicked (stopP 1) ∧ Rep B0 w0 (M ++ cL p q g h n cp a k b5 b4 b3) w' := by
 have m4 : (b4, Obj.cells [Value.slice a n cp].toArray 27) ∈ M ++ cL p q g h n cp a k b5 b4 b3 := List.mem_append_right _ (.tail _ (.head _))
 have m3 : (b3, Obj.cells (gl p q g h).toArray 26) ∈ M ++ cL p q g h n cp a k b5 b4 b3 := List.mem_append_right _ (.tail _ (.tail _ (.head _)))
 obtain ⟨LL, hLL⟩ : ∃ LL, M ++ cL p q g h n cp a k b5 b4 b3 = LL := ⟨_, rfl⟩
 rw [hLL] at hR m4 m3 ⊢
 clear hLL
 replace hA := Held.mk hA
 replace hno := Held.mk hno
 go_enter Tryz.func109, Tryz.ntmps109
 go_wp2_with (first | (refine' aAq hR ?_; clear hR; intro blk w hR) | (refine' aBq hR ?_; clear hR; intro blk w hR) | (refine' aPq hR ?_) | (refine' aQq hR ?_) | (refine' aRq hR ?_) | (refine' aZq hR ?_; clear hR; intro w hR) | (refine' aAr hR ?_; clear hR; intro w hR) | fail)
 try simp only [Act.put, kA, kB, List.setIfInBounds_toArray]
 refine' xBh (false :: false :: false :: false :: true :: false :: false :: false :: false :: false :: false :: false :: true :: true :: true :: true :: true :: true :: true :: true :: true :: true :: true :: false :: false :: false :: false :: false :: false :: false :: false :: false :: false :: false :: false :: false :: false :: false :: false :: false :: false :: false :: false :: false :: false :: false :: false :: false :: false :: false :: false :: false :: false :: false :: false :: false :: false :: false :: false :: false :: false :: false :: []) (fun (v : Nat) l => l.set 11 (.int .i64 (v : Int))) (fun v => LL) (fun v => n - v) (fun v => v ≤ n ∧ ∀ j, j < v → mayG p (V j)) 0 ?h0 ?hO ?hR ?hs
 case h0 => exact xAn rfl rfl rfl
 case hO => exact ⟨Nat.zero_le _, fun j hj => absurd hj (Nat.not_lt_zero j)⟩
 case hR => exact hR
 case hs =>
  clear hR
  intro i tm w hO ht hR K hK
  obtain ⟨hi, hall⟩ := hO
  have g0 : 0 ≤ (i : Int) := by omega
  by_cases hik : i = n
  ·rw [hik] at hall
   exact absurd hall hno.out
  have t1 : (i : Int) < (n : Int) := by omega
  have hin : i < n := by omega
  have hi1 : i + 1 ≤ n := by omega
  have hmu : n - (i + 1) < n - i := by omega
  have ei : IntKind.i64.wrap ((i : Int) + 1) = (i : Int) + 1 := by rw [IntKind.wrap_i64]; omega
  have ek : ((i + 1 : Nat) : Int) = (i : Int) + 1 := by omega
  obtain ⟨bv, ov, rfl, hyv⟩ := hA.out.at' (by omega)
  have ldv := fun (L : List (Nat × Obj)) (w : World) (hw : Rep B0 w0 L w) => xBt (hyv w (hw.weaken (List.nil_sublist _)) i hin)
  have lv := hA.out.lt i hin
  obtain ⟨vv, hvv⟩ : ∃ v, V i = v := ⟨_, rfl⟩
  rw [hvv] at ldv lv
  by_cases mv : mayG p vv
  ·obtain ⟨rr, hrr⟩ : ∃ v, powN vv 0 p = v := ⟨_, rfl⟩
   have cE := xGo (p := p) (q := q) (g := g) (h := h) (n := 0) (e := 0) hp lv (lt_B (by decide)) (show (if mayG p vv then powN vv 0 p else 0) = rr by rw [if_pos mv]; exact hrr) (if_pos mv)
   have cM := fun w => xEz rr w
   have hnx : ∀ j, j < i + 1 → mayG p (V j) := fun j hj => by
    by_cases e : j = i
    ·rw [e, hvv]; exact mv
    ·exact hall j (by omega)
   replace hnx := Held.mk hnx
   replace ek := Held.mk ek
   replace hi1 := Held.mk hi1
   replace hmu := Held.mk hmu
   clear hi hik hyv hvv hrr mv hin hA hno hall
   repeat (first | (obtain ⟨x, tm', e, ht'⟩ := xAg ht; clear ht; subst e; have ht := ht'; clear ht') | (obtain ⟨tm', e, ht'⟩ := xAd ht; clear ht; subst e; have ht := ht'; clear ht'))
   obtain rfl := xAl ht
   clear ht
   go_wp2_with (first | (refine' aAq hR ?_; clear hR; intro blk w hR) | (refine' aBq hR ?_; clear hR; intro blk w hR) | (refine' aPq hR ?_) | (refine' aQq hR ?_) | (refine' aRq hR ?_) | (refine' aZq hR ?_; clear hR; intro w hR) | (refine' aAr hR ?_; clear hR; intro w hR) | (refine' xCm rfl rfl xIz ?_) | (refine' xCl rfl rfl rfl (ldv _ _ hR) ?_) | (go_at_call 110; refine (cE _).mono ?_; rintro e w ⟨rfl, hb⟩; replace hR := hR.call hb; clear hb) | (go_at_call 102; refine (cM _).mono ?_; rintro e w ⟨rfl, hb⟩; replace hR := hR.call hb; clear hb))
   refine hK.out (i + 1) _ _ ⟨hi1.out, hnx.out⟩ hmu.out (by simp only [ek.out]; exact xAn rfl rfl rfl) ?_
   exact hR.drop1
  ·have cE := xGo (p := p) (q := q) (g := g) (h := h) (n := 0) (e := 1) hp lv (lt_B (by decide)) (show (if mayG p vv then powN vv 0 p else 0) = 0 from if_neg mv) (if_neg mv)
   have cM := fun w => must_no 0 1 (by decide) w
   clear hi hik hyv hvv mv hin hA hno hall hK
   repeat (first | (obtain ⟨x, tm', e, ht'⟩ := xAg ht; clear ht; subst e; have ht := ht'; clear ht') | (obtain ⟨tm', e, ht'⟩ := xAd ht; clear ht; subst e; have ht := ht'; clear ht'))
   obtain rfl := xAl ht
   clear ht
   go_wp2_with (first | (refine' aAq hR ?_; clear hR; intro blk w hR) | (refine' aBq hR ?_; clear hR; intro blk w hR) | (refine' aPq hR ?_) | (refine' aQq hR ?_) | (refine' aRq hR ?_) | (refine' aZq hR ?_; clear hR; intro w hR) | (refine' aAr hR ?_; clear hR; intro w hR) | (refine' xCm rfl rfl xIz ?_) | (refine' xCl rfl rfl rfl (ldv _ _ hR) ?_) | (go_at_call 110; refine (cE _).mono ?_; rintro e w ⟨rfl, hb⟩; replace hR := hR.call hb; clear hb) | (go_at_call 102; refine (cM _).mono ?_; rintro e w ⟨rfl, hb⟩; replace hR := hR.call hb; clear hb))
   exact ⟨rfl, rfl, hR.drop1⟩
theorem xJp (hp : p < B) (hq : q < B) (hA : NAt B0 w0 [] a n cp V) (hm : ∀ j, j < n → mayG p (V j)) (hn1 : 1 ≤ n) (hn7 : n ≤ 7) (hk1 : 1 ≤ k) (hkn : k ≤ n) (hwe : k = n ∨ wErr q n ≠ 0) {b5 b4 b3 : Nat} (M : List (Nat × Obj)) (hR : Rep B0 w0 (M ++ cL p q g h n cp a k b5 b4 b3) w) :
  Calls Tryz.prog 109 #[.pointer (some ⟨b4, 0, none⟩), .pointer (some ⟨b3, 0, none⟩), .pointer (some ⟨b5, 0, none⟩)] w fun e w' => ((k = n ∧ e = .returned (.tuple #[])) ∨ (k < n ∧ e = .panicked (stopP (wErr q n)))) ∧ Rep B0 w0 (M ++ cL p q g h n cp a k b5 b4 b3) w' := by
 have m5 : (b5, Obj.cells [Value.int .i64 (k : Int)].toArray 3) ∈ M ++ cL p q g h n cp a k b5 b4 b3 := List.mem_append_right _ (.head _)
 have m4 : (b4, Obj.cells [Value.slice a n cp].toArray 27) ∈ M ++ cL p q g h n cp a k b5 b4 b3 := List.mem_append_right _ (.tail _ (.head _))
 have m3 : (b3, Obj.cells (gl p q g h).toArray 26) ∈ M ++ cL p q g h n cp a k b5 b4 b3 := List.mem_append_right _ (.tail _ (.tail _ (.head _)))
 obtain ⟨LL, hLL⟩ : ∃ LL, M ++ cL p q g h n cp a k b5 b4 b3 = LL := ⟨_, rfl⟩
 rw [hLL] at hR m5 m4 m3 ⊢
 clear hLL
 replace hA := Held.mk hA
 replace hm := Held.mk hm
 replace hwe := Held.mk hwe
 go_enter Tryz.func109, Tryz.ntmps109
 go_wp2_with (first | (refine' aAq hR ?_; clear hR; intro blk w hR) | (refine' aBq hR ?_; clear hR; intro blk w hR) | (refine' aPq hR ?_) | (refine' aQq hR ?_) | (refine' aRq hR ?_) | (refine' aZq hR ?_; clear hR; intro w hR) | (refine' aAr hR ?_; clear hR; intro w hR) | fail)
 try simp only [Act.put, kA, kB, List.setIfInBounds_toArray]
 refine' xBh (false :: false :: false :: false :: true :: false :: false :: false :: false :: false :: false :: false :: true :: true :: true :: true :: true :: true :: true :: true :: true :: true :: true :: false :: false :: false :: false :: false :: false :: false :: false :: false :: false :: false :: false :: false :: false :: false :: false :: false :: false :: false :: false :: false :: false :: false :: false :: false :: false :: false :: false :: false :: false :: false :: false :: false :: false :: false :: false :: false :: false :: false :: []) (fun (v : Nat) l => l.set 11 (.int .i64 (v : Int))) (fun v => LL) (fun v => n - v) (fun v => v ≤ n) 0 ?h0 ?hO ?hR ?hs
 case h0 => exact xAn rfl rfl rfl
 case hO => exact Nat.zero_le _
 case hR => exact hR
 case hs =>
  clear hR
  intro i tm w hi ht hR K hK
  have g0 : 0 ≤ (i : Int) := by omega
  by_cases hik : i = n
  case neg =>
   have t1 : (i : Int) < (n : Int) := by omega
   have hin : i < n := by omega
   have hi1 : i + 1 ≤ n := by omega
   have hmu : n - (i + 1) < n - i := by omega
   have ei : IntKind.i64.wrap ((i : Int) + 1) = (i : Int) + 1 := by rw [IntKind.wrap_i64]; omega
   have ek : ((i + 1 : Nat) : Int) = (i : Int) + 1 := by omega
   obtain ⟨bv, ov, rfl, hyv⟩ := hA.out.at' (by omega)
   have ldv := fun (L : List (Nat × Obj)) (w : World) (hw : Rep B0 w0 L w) => xBt (hyv w (hw.weaken (List.nil_sublist _)) i hin)
   have lv := hA.out.lt i hin
   have mv := hm.out i hin
   obtain ⟨vv, hvv⟩ : ∃ v, V i = v := ⟨_, rfl⟩
   rw [hvv] at ldv lv mv
   obtain ⟨rr, hrr⟩ : ∃ v, powN vv 0 p = v := ⟨_, rfl⟩
   have cE := xGo (p := p) (q := q) (g := g) (h := h) (n := 0) (e := 0) hp lv (lt_B (by decide)) (show (if mayG p vv then powN vv 0 p else 0) = rr by rw [if_pos mv]; exact hrr) (if_pos mv)
   have cM := fun w => xEz rr w
   replace ek := Held.mk ek
   replace hi1 := Held.mk hi1
   replace hmu := Held.mk hmu
   clear hi hik hyv hvv hrr mv hin hA hm hwe
   repeat (first | (obtain ⟨x, tm', e, ht'⟩ := xAg ht; clear ht; subst e; have ht := ht'; clear ht') | (obtain ⟨tm', e, ht'⟩ := xAd ht; clear ht; subst e; have ht := ht'; clear ht'))
   obtain rfl := xAl ht
   clear ht
   go_wp2_with (first | (refine' aAq hR ?_; clear hR; intro blk w hR) | (refine' aBq hR ?_; clear hR; intro blk w hR) | (refine' aPq hR ?_) | (refine' aQq hR ?_) | (refine' aRq hR ?_) | (refine' aZq hR ?_; clear hR; intro w hR) | (refine' aAr hR ?_; clear hR; intro w hR) | (refine' xCm rfl rfl xIz ?_) | (refine' xCl rfl rfl rfl (ldv _ _ hR) ?_) | (go_at_call 110; refine (cE _).mono ?_; rintro e w ⟨rfl, hb⟩; replace hR := hR.call hb; clear hb) | (go_at_call 102; refine (cM _).mono ?_; rintro e w ⟨rfl, hb⟩; replace hR := hR.call hb; clear hb))
   refine hK.out (i + 1) _ _ hi1.out hmu.out (by simp only [ek.out]; exact xAn rfl rfl rfl) ?_
   exact hR.drop1
  subst hik
  have t1 : ¬ (i : Int) < (i : Int) := by omega
  have esub : IntKind.i64.wrap ((i : Int) - (k : Int)) = ((i - k : Nat) : Int) := by rw [IntKind.wrap_i64]; omega
  clear hK hi
  repeat (first | (obtain ⟨x, tm', e, ht'⟩ := xAg ht; clear ht; subst e; have ht := ht'; clear ht') | (obtain ⟨tm', e, ht'⟩ := xAd ht; clear ht; subst e; have ht := ht'; clear ht'))
  obtain rfl := xAl ht
  clear ht
  go_wp2_with (first | (refine' aAq hR ?_; clear hR; intro blk w hR) | (refine' aBq hR ?_; clear hR; intro blk w hR) | (refine' aPq hR ?_) | (refine' aQq hR ?_) | (refine' aRq hR ?_) | (refine' aZq hR ?_; clear hR; intro w hR) | (refine' aAr hR ?_; clear hR; intro w hR) | fail)
  try simp only [Act.put, kA, kB, List.setIfInBounds_toArray]
  refine' xBh (false :: false :: false :: false :: false :: true :: true :: true :: true :: false :: false :: false :: false :: false :: false :: false :: false :: false :: false :: false :: false :: false :: false :: false :: false :: false :: false :: false :: true :: true :: true :: true :: true :: true :: true :: true :: true :: true :: true :: true :: true :: true :: true :: true :: true :: true :: true :: true :: true :: true :: true :: true :: true :: true :: true :: true :: true :: true :: true :: true :: true :: true :: []) (fun (v : Nat) l => l.set 27 (.int .i64 (v : Int))) (fun v => LL) (fun v => (i - k) - v) (fun v => v = 0) 0 ?u0 ?uO ?uR ?us
  case u0 => exact xAn rfl rfl rfl
  case uO => exact rfl
  case uR => exact hR
  case us =>
   clear hR
   intro j tm w hj ht hR K hK
   subst hj
   clear hK
   by_cases hkk : k = i
   ·have u1 : ¬ (0 : Int) < ((i - k : Nat) : Int) := by omega
    replace hkk := Held.mk hkk
    repeat (first | (obtain ⟨x, tm', e, ht'⟩ := xAg ht; clear ht; subst e; have ht := ht'; clear ht') | (obtain ⟨tm', e, ht'⟩ := xAd ht; clear ht; subst e; have ht := ht'; clear ht'))
    obtain rfl := xAl ht
    clear ht
    go_wp2_with (first | (refine' aAq hR ?_; clear hR; intro blk w hR) | (refine' aBq hR ?_; clear hR; intro blk w hR) | (refine' aPq hR ?_) | (refine' aQq hR ?_) | (refine' aRq hR ?_) | (refine' aZq hR ?_; clear hR; intro w hR) | (refine' aAr hR ?_; clear hR; intro w hR) | fail)
    go_end0
    exact ⟨.inl ⟨hkk.out, rfl⟩, hR⟩
   ·have u1 : (0 : Int) < ((i - k : Nat) : Int) := by omega
    have hki : k < i := by omega
    have hji : 0 + 1 < i := by omega
    have hw0 : wErr q i ≠ 0 := hwe.out.resolve_left hkk
    obtain ⟨o1, ho1⟩ : ∃ v, sOf q 1 = v := ⟨_, rfl⟩
    have lo1 : o1 < B := by
     rw [← ho1, xGz]
     split
     ·exact xEs
     ·exact Nat.lt_trans (by have := Int.emod_lt_of_pos (1 : Int) (show (0 : Int) < (q : Int) by omega); have := Int.emod_nonneg (1 : Int) (show (q : Int) ≠ 0 by omega); omega) hq
    have cO := SO (p := p) (g := g) (h := h) (n := 1) hq (by decide) (by decide) ho1
    have hset : ∀ t, t < 0 + 1 → mono q 0 t = if t = 0 then o1 else 0 := fun t ht => by
     unfold mono
     by_cases h2 : t = 0
     ·rw [if_pos h2, if_neg (by omega), ho1]
     ·omega
    have hrs := xEn (f := fun _ => 0) (f' := mono q 0) (n := 0 + 1) (i := 0) (v := o1) (by omega) hset
    have hlen : 0 * 4 + 4 ≤ (xBy (fun _ => 0) (0 + 1)).length := by rw [xBf]; omega
    have lmo : ∀ t, t < 0 + 1 → mono q 0 t < B := fun t ht => by
     rw [hset t ht]
     split
     ·exact lo1
     ·exact xEs
    have cW : ∀ (gp : Nat) (w : World), Rep B0 w0 ((gp, Obj.cells (xBy (mono q 0) (0 + 1)).toArray 24) :: LL) w → Calls Tryz.prog 18 #[grp p q g h, .int .i64 (i : Int), .slice (some ⟨gp, 0, none⟩) (0 + 1 : Nat) (0 + 1 : Nat)] w fun e w' => e = .returned (.tuple #[.slice none 0 0, .int .i64 (wErr q i)]) ∧ Rep B0 w0 ((gp, Obj.cells (xBy (mono q 0) (0 + 1)).toArray 24) :: LL) w' := fun gp w hw => by
     have pA := (xFv (f := mono q 0) (n := 0 + 1) (by decide)).at (B0 := B0) (w0 := w0) (L := (gp, Obj.cells (xBy (mono q 0) (0 + 1)).toArray 24) :: LL) (.head _) (Nat.le_refl _) lmo
     by_cases hq1 : 1 < q
     ·have hd : ¬ difOK q i := fun hd => hw0 (wErr_0 hq1 hd)
      rw [wErr_7 hq1 hd]
      exact word_none (g := g) (h := h) hp hq hq1 pA (fun t _ => mono_lt hq1 0 t) hd hn1 hn7 hji hw
     ·rw [wErr_1 hq1]
      exact word_arg (g := g) (h := h) hp hq pA (fun hh => hq1 hh.1) hn1 hn7 hji hw
    have er : xBy (mono q 0) (0 + 1) = nl o1 := by rw [xCp, hset 0 (by decide), if_pos rfl]; rfl
    simp only [er] at cW
    obtain ⟨we, hwee⟩ : ∃ z, z = wErr q i := ⟨_, rfl⟩
    rw [← hwee] at cW hw0
    have cM := fun w => must_no 0 we hw0 w
    have hM1 : (0 + 1 : Nat) ≤ 1000000 := by decide
    replace hrs := Held.mk hrs
    replace hlen := Held.mk hlen
    replace hwee := Held.mk hwee
    replace hki := Held.mk hki
    clear hkk hwe hA hm ho1 lo1 hset lmo hji
    repeat (first | (obtain ⟨x, tm', e, ht'⟩ := xAg ht; clear ht; subst e; have ht := ht'; clear ht') | (obtain ⟨tm', e, ht'⟩ := xAd ht; clear ht; subst e; have ht := ht'; clear ht'))
    obtain rfl := xAl ht
    clear ht
    go_wp2_with (first | (refine' aAq hR ?_; clear hR; intro blk w hR) | (refine' aBq hR ?_; clear hR; intro blk w hR) | (refine' aPq hR ?_) | (refine' aQq hR ?_) | (refine' aRq hR ?_) | (refine' aZq hR ?_; clear hR; intro w hR) | (refine' aAr hR ?_; clear hR; intro w hR) | (refine' xCm rfl rfl xIz ?_) | (refine' xCk hR (xDl (n := 0 + 1) rfl rfl rfl rfl hM1) ?_; clear hR; intro gp w hR) | (go_at_call 103; refine (cO _).mono ?_; rintro e w ⟨rfl, hb⟩; replace hR := hR.call hb; clear hb) | (refine' xCj (l := xBy (fun _ => 0) (0 + 1)) (l' := xBy (mono q 0) (0 + 1)) (vs := nl o1) hR rfl rfl rfl inferInstance rfl rfl rfl .head hlen.out hrs.out ?_; clear hR; intro w hR) | (go_at_call 18; refine (cW _ _ hR).mono ?_; clear hR; rintro e w ⟨rfl, hR⟩) | (go_at_call 102; refine (cM _).mono ?_; rintro e w ⟨rfl, hb⟩; replace hR := hR.call hb; clear hb))
    exact ⟨rfl, .inr ⟨hki.out, by rw [hwee.out]⟩, hR.drop1⟩
theorem check_ret (hn1 : 1 ≤ n) (hn7 : n ≤ 7) (hk1 : 1 ≤ k) (hkn : k ≤ n)
  (c2 : ∀ (b5 b4 b3 : Nat) (M : List (Nat × Obj)) (w : World), (∀ x ∈ M, x.2.isCells = true) → Rep W.heap.size W (M ++ cL p q g h n cp a k b5 b4 b3) w → Calls Tryz.prog 109 #[.pointer (some ⟨b4, 0, none⟩), .pointer (some ⟨b3, 0, none⟩), .pointer (some ⟨b5, 0, none⟩)] w fun e w' => e = .returned (.tuple #[]) ∧ Rep W.heap.size W (M ++ cL p q g h n cp a k b5 b4 b3) w') :
  Calls Tryz.prog 20 #[grp p q g h, .slice a n cp, .int .i64 (k : Int)] W fun e w' => e = .returned (.tuple #[.bool true, .int .i64 0]) ∧ Below W.heap.size W w' := by
 have hR := Rep.init W
 have hmf : ∀ (fn : Fn) (first cap : Array Value) (w : World), (Instr.makeFunc fn first cap).run Tryz.prog w = .ok (.func fn first cap) w := fun _ _ _ _ => rfl
 have d1 : decide ((n : Int) < 1) = false := decide_eq_false (by omega)
 have d1' : ¬ (n : Int) < 1 := by omega
 have d2 : decide (7 < (n : Int)) = false := decide_eq_false (by omega)
 have d2' : ¬ 7 < (n : Int) := by omega
 have d3 : decide ((k : Int) < 1) = false := decide_eq_false (by omega)
 have d3' : ¬ (k : Int) < 1 := by omega
 have d4 : decide ((n : Int) < (k : Int)) = false := decide_eq_false (by omega)
 have d4' : ¬ (n : Int) < (k : Int) := by omega
 go_enter Tryz.func20, Tryz.ntmps20
 go_wp2_with (first | go_skip | (refine' xBa (l := [.int .i64 (k : Int)]) hR rfl rfl rfl ?_; clear hR; intro blk w hR) | (refine' xBa (l := [.slice a n cp]) hR rfl rfl rfl ?_; clear hR; intro blk w hR) | (refine' aAq hR ?_; clear hR; intro blk w hR) | (refine' aBq hR ?_; clear hR; intro blk w hR) | (refine' aPq hR ?_) | (refine' aQq hR ?_) | (refine' aRq hR ?_) | (refine' aZq hR ?_; clear hR; intro w hR) | (refine' aAr hR ?_; clear hR; intro w hR) | (refine' aEr hR ?_) | (refine' aFr hR ?_) | (refine' aHr hR ?_) | (go_at_call 100; refine (xJq [_, _, _] (fun M w hM hw => c2 _ _ _ M w hM hw) hR).mono ?_; clear hR; rintro e w ⟨rfl, hR⟩))
 go_ret2
 exact ⟨rfl, hR.below⟩
theorem check_pan (er : Int) (hn1 : 1 ≤ n) (hn7 : n ≤ 7) (hk1 : 1 ≤ k) (hkn : k ≤ n)
  (c2 : ∀ (b5 b4 b3 : Nat) (M : List (Nat × Obj)) (w : World), (∀ x ∈ M, x.2.isCells = true) → Rep W.heap.size W (M ++ cL p q g h n cp a k b5 b4 b3) w → Calls Tryz.prog 109 #[.pointer (some ⟨b4, 0, none⟩), .pointer (some ⟨b3, 0, none⟩), .pointer (some ⟨b5, 0, none⟩)] w fun e w' => e = .panicked (stopP er) ∧ Rep W.heap.size W (M ++ cL p q g h n cp a k b5 b4 b3) w') :
  Calls Tryz.prog 20 #[grp p q g h, .slice a n cp, .int .i64 (k : Int)] W fun e w' => e = .returned (.tuple #[.bool false, .int .i64 er]) ∧ Below W.heap.size W w' := by
 have hR := Rep.init W
 have hmf : ∀ (fn : Fn) (first cap : Array Value) (w : World), (Instr.makeFunc fn first cap).run Tryz.prog w = .ok (.func fn first cap) w := fun _ _ _ _ => rfl
 have d1 : decide ((n : Int) < 1) = false := decide_eq_false (by omega)
 have d1' : ¬ (n : Int) < 1 := by omega
 have d2 : decide (7 < (n : Int)) = false := decide_eq_false (by omega)
 have d2' : ¬ 7 < (n : Int) := by omega
 have d3 : decide ((k : Int) < 1) = false := decide_eq_false (by omega)
 have d3' : ¬ (k : Int) < 1 := by omega
 have d4 : decide ((n : Int) < (k : Int)) = false := decide_eq_false (by omega)
 have d4' : ¬ (n : Int) < (k : Int) := by omega
 go_enter Tryz.func20, Tryz.ntmps20
 go_wp2_with (first | go_skip | (refine' xBa (l := [.int .i64 (k : Int)]) hR rfl rfl rfl ?_; clear hR; intro blk w hR) | (refine' xBa (l := [.slice a n cp]) hR rfl rfl rfl ?_; clear hR; intro blk w hR) | (refine' aAq hR ?_; clear hR; intro blk w hR) | (refine' aBq hR ?_; clear hR; intro blk w hR) | (refine' aPq hR ?_) | (refine' aQq hR ?_) | (refine' aRq hR ?_) | (refine' aZq hR ?_; clear hR; intro w hR) | (refine' aAr hR ?_; clear hR; intro w hR) | (refine' aEr hR ?_) | (refine' aFr hR ?_) | (refine' aHr hR ?_) | (go_at_call 100; refine (xIo [_, _, _] er (fun M w hM hw => c2 _ _ _ M w hM hw) hR).mono ?_; clear hR; rintro e w ⟨rfl, hR⟩))
 go_ret2
 exact ⟨rfl, hR.below⟩
theorem dcheck_any (hp : p < B) (hq : q < B) (hA : NAt B0 w0 L a n cp V) (hn1 : 1 ≤ n) (hn7 : n ≤ 7) (hk1 : 1 ≤ k) (hkn : k ≤ n) {s : Bool} {er : Int} (hs : chkRes p q n V k s er) (hR : Rep B0 w0 L w) :
  Calls Tryz.prog 20 #[grp p q g h, .slice a n cp, .int .i64 (k : Int)] w fun e w' => e = .returned (.tuple #[.bool s, .int .i64 er]) ∧ Rep B0 w0 L w' := by
 have hA' := hA.here hR
 rcases hs with ⟨hno, rfl, rfl⟩ | ⟨hm, hc, hs, rfl⟩ | ⟨hm, hlt, hwe, rfl, rfl⟩
 ·exact (check_pan (g := g) (h := h) 1 hn1 hn7 hk1 hkn fun b5 b4 b3 M w' _ hw => check1_may (q := q) (g := g) (h := h) hp hA' hno hn7 M hw).mono fun e w' hh => ⟨hh.1, hR.call hh.2⟩
 ·by_cases hwe : wErr q n = 0
  ·obtain ⟨hq1, hd⟩ := wErr_is hwe
   exact (check_go (g := g) (h := h) hp hq (hm 0 (by omega)).1 hq1 hA' hm hd hn1 hn7 hk1 hkn s hs).mono fun e w' hh => ⟨hh.1, hR.call hh.2⟩
  ·have hkn' : k = n := hc.resolve_right hwe
   obtain rfl : s = true := hs.2 fun kk hkk => by omega
   refine (check_ret (g := g) (h := h) hn1 hn7 hk1 hkn fun b5 b4 b3 M w' _ hw => (xJp (g := g) (h := h) hp hq hA' hm hn1 hn7 hk1 hkn (.inl hkn') M hw).mono fun e w'' hh => ⟨?_, hh.2⟩).mono fun e w' hh => ⟨hh.1, hR.call hh.2⟩
   rcases hh.1 with ⟨_, h1⟩ | ⟨h1, _⟩
   ·exact h1
   ·omega
 ·refine (check_pan (g := g) (h := h) (wErr q n) hn1 hn7 hk1 hkn fun b5 b4 b3 M w' _ hw => (xJp (g := g) (h := h) hp hq hA' hm hn1 hn7 hk1 hkn (.inr hwe) M hw).mono fun e w'' hh => ⟨?_, hh.2⟩).mono fun e w' hh => ⟨hh.1, hR.call hh.2⟩
  rcases hh.1 with ⟨h1, _⟩ | ⟨_, h1⟩
  ·omega
  ·exact h1
theorem uni_check (hp : p < B) (hq : q < B) (m : Int) : ∃ (s : Bool) (er : Int),
  (∀ {L : List (Nat × Obj)} {w : World} {a : Option Addr} {cp : Nat}, NAt B0 w0 L a n cp V → Rep B0 w0 L w → Calls Tryz.prog 20 #[grp p q g h, .slice a n cp, .int .i64 m] w fun e w' => e = .returned (.tuple #[.bool s, .int .i64 er]) ∧ Rep B0 w0 L w') ∧
  (∀ {L : List (Nat × Obj)} {w : World} {a : Option Addr} {cp : Nat}, NAt B0 w0 [] a n cp V → Rep B0 w0 L w → Calls Tryz.prog 21 #[grp p q g h, .slice a n cp, .int .i64 m] w fun e w' => e = .returned (.tuple #[.bool s, .int .i64 er]) ∧ Rep B0 w0 L w') := by
 by_cases hbad : n < 1 ∨ 7 < n ∨ m < 1 ∨ (n : Int) < m
 ·exact ⟨false, 1, fun hA hR => (check_bad m hbad).mono fun e w' hh => ⟨hh.1, hR.call hh.2⟩, fun hA hR => rcheck_bad m hbad hR⟩
 ·obtain ⟨k, rfl⟩ : ∃ k : Nat, m = (k : Int) := ⟨m.toNat, by omega⟩
  obtain ⟨s, er, hs⟩ := chkRes_ex p q n V (k := k) (by omega)
  exact ⟨s, er, fun hA hR => dcheck_any hp hq hA (by omega) (by omega) (by omega) (by omega) hs hR, fun hA hR => rcheck_any hp hq hA (by omega) (by omega) (by omega) (by omega) hs hR⟩
end
end
end Go.Proofs.YtaaahfjpnggkbaaGreatDoor
