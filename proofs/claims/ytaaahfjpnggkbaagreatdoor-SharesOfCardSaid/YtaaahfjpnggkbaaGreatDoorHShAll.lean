import Derived.Test.YtaaahfjpnggkbaaGreatDoorHShRr
set_option linter.unusedSimpArgs false
set_option linter.unusedVariables false
set_option maxRecDepth 100000
set_option maxHeartbeats 20000000
namespace Go.Proofs.YtaaahfjpnggkbaaGreatDoor
open Go.RowKit
attribute [local irreducible] Calls Instr.build Instr.buildSlice Instr.makeSlice
theorem choose2 {P : Nat → Nat → Int → Prop} (h : ∀ s, ∃ v e, P s v e) : ∃ (V : Nat → Nat) (E : Nat → Int), ∀ s, P s (V s) (E s) := ⟨fun s => (h s).choose, fun s => (h s).choose_spec.choose, fun s => (h s).choose_spec.choose_spec⟩
theorem shK_le {most : Nat} {E : Nat → Int} {k : Int} : shK most E k ≤ most := by
 unfold shK
 split
 ·exact Nat.zero_le _
 ·split
  ·omega
  ·exact Nat.zero_le _
theorem raK_le {n m : Nat} {E1 : Int} {E2 : Nat → Int} {k : Int} : raK n m E1 E2 k ≤ 3 := by
 by_cases h : raBad n m k
 ·rw [raK_bad h]; omega
 ·by_cases h1 : E1 = 0
  ·rw [raK_two h h1]
   have h2 : ¬ 3 < k := fun h3 => h (.inr (.inl h3))
   split <;> omega
  ·rw [raK_one h h1]; omega
section
variable {p q g h : Nat} {B0 : Nat} {w0 : World} {n m : Nat} {f Pw : Nat → Nat} {A : Nat → Int} {k : Int}
theorem uni_ats (hp : p < B) (hq : q < B) (hn : n ≤ 1000) (x : Nat → Nat) (hx : ∀ i, x i < B) : ∃ (V : Nat → Nat) (E : Nat → Int), (∀ i, V i < B) ∧
  (∀ i, ∀ {L : List (Nat × Obj)} {w : World} {a : Option Addr} {cp : Nat}, NAt B0 w0 L a n cp f → Rep B0 w0 L w → Calls Tryz.prog 8 #[grp p q g h, .slice a n cp, num (x i)] w fun e w' => e = .returned (.tuple #[num (V i), .int .i64 (E i)]) ∧ Rep B0 w0 L w') ∧
  (∀ i, ∀ {L : List (Nat × Obj)} {w : World} {a : Option Addr} {cp : Nat}, NAt B0 w0 L a n cp f → Rep B0 w0 L w → Calls Tryz.prog 11 #[grp p q g h, .slice a n cp, num (x i)] w fun e w' => e = .returned (.tuple #[num (V i), .int .i64 (E i)]) ∧ Rep B0 w0 L w') := by
 have hs := fun i => uni_at (p := p) (q := q) (g := g) (h := h) (B0 := B0) (w0 := w0) (f := f) (n := n) hp hq (hx i) hn
 exact ⟨fun i => (hs i).choose, fun i => (hs i).choose_spec.choose, fun i => (hs i).choose_spec.choose_spec.1, fun i => (hs i).choose_spec.choose_spec.2.1, fun i => (hs i).choose_spec.choose_spec.2.2⟩
theorem uni_of (hp : p < B) (hq : q < B) (hn : n ≤ 1000) : ∃ (kk : Nat) (ke : Int) (F : Nat → Nat), kk ≤ 1000 ∧ (∀ j, j < kk → F j < B) ∧
  (∀ {L : List (Nat × Obj)} {w : World} {a : Option Addr} {cp : Nat}, NAt B0 w0 L a n cp f → Rep B0 w0 L w → Calls Tryz.prog 23 #[grp p q g h, .slice a n cp, .int .i64 k] w fun e w' => ∃ X : GrN, e = .returned (.tuple #[.slice X.a kk X.cap, .int .i64 ke]) ∧ xCc X kk F ∧ Rep B0 w0 (X.bl ++ L) w') ∧
  (∀ {L : List (Nat × Obj)} {w : World} {a : Option Addr} {cp : Nat}, NAt B0 w0 [] a n cp f → Rep B0 w0 L w → Calls Tryz.prog 26 #[grp p q g h, .slice a n cp, .int .i64 k] w fun e w' => ∃ X : GrN, e = .returned (.tuple #[.slice X.a kk X.cap, .int .i64 ke]) ∧ xCc X kk F ∧ Rep B0 w0 (X.bl ++ L) w') := by
 obtain ⟨V, E, hV, c1, c2⟩ := uni_ats (p := p) (q := q) (g := g) (h := h) (B0 := B0) (w0 := w0) (f := f) hp hq hn (fun i => sOf q ((i : Int) + 1)) (fun i => sOf_ltB hq _)
 exact ⟨shK 7 E k, shE 7 E k, V, Nat.le_trans (shK_le (most := 7)) (by omega), fun j _ => hV j, fun hA hR => shOf_any hq (fun i _ M w hw => c1 i (hA.mono fun w hw => hw.weaken (List.sublist_append_right _ _)) hw) hR, fun hA hR => rshOf_any hq (fun i _ => c2 i) hA hR⟩
theorem uni_sec (hp : p < B) (hq : q < B) (hn : n ≤ 1000) : ∃ (kk : Nat) (ke : Int) (F : Nat → Nat), kk ≤ 1000 ∧ (∀ j, j < kk → F j < B) ∧
  (∀ {L : List (Nat × Obj)} {w : World} {a : Option Addr} {cp : Nat}, NAt B0 w0 L a n cp f → Rep B0 w0 L w → Calls Tryz.prog 24 #[grp p q g h, .slice a n cp, .int .i64 k] w fun e w' => ∃ X : GrN, e = .returned (.tuple #[.slice X.a kk X.cap, .int .i64 ke]) ∧ xCc X kk F ∧ Rep B0 w0 (X.bl ++ L) w') ∧
  (∀ {L : List (Nat × Obj)} {w : World} {a : Option Addr} {cp : Nat}, NAt B0 w0 [] a n cp f → Rep B0 w0 L w → Calls Tryz.prog 27 #[grp p q g h, .slice a n cp, .int .i64 k] w fun e w' => ∃ X : GrN, e = .returned (.tuple #[.slice X.a kk X.cap, .int .i64 ke]) ∧ xCc X kk F ∧ Rep B0 w0 (X.bl ++ L) w') := by
 obtain ⟨V, E, hV, c1, c2⟩ := uni_ats (p := p) (q := q) (g := g) (h := h) (B0 := B0) (w0 := w0) (f := f) hp hq hn (fun i => sOf q (-(i : Int) - 1)) (fun i => sOf_ltB hq _)
 exact ⟨shK 3 E k, shE 3 E k, V, Nat.le_trans (shK_le (most := 3)) (by omega), fun j _ => hV j, fun hA hR => shSec_any hq (fun i _ M w hw => c1 i (hA.mono fun w hw => hw.weaken (List.sublist_append_right _ _)) hw) hR, fun hA hR => rshSec_any hq (fun i _ => c2 i) hA hR⟩
theorem uni_raise (hp : p < B) (hq : q < B) (hn : n ≤ 1000) (hm : m ≤ 1000) (hPw : ∀ j, j < m → Pw j < B) : ∃ (kk : Nat) (ke : Int) (F : Nat → Nat), kk ≤ 1000 ∧ (∀ j, j < kk → F j < B) ∧
  (∀ {L : List (Nat × Obj)} {w : World} {aa pa : Option Addr} {ca cq : Nat}, IAt B0 w0 L aa n ca A → NAt B0 w0 L pa m cq Pw → Rep B0 w0 L w → Calls Tryz.prog 25 #[grp p q g h, .slice aa n ca, .slice pa m cq, .int .i64 k] w fun e w' => ∃ X : GrN, e = .returned (.tuple #[.slice X.a kk X.cap, .int .i64 ke]) ∧ xCc X kk F ∧ Rep B0 w0 (X.bl ++ L) w') ∧
  (∀ {L : List (Nat × Obj)} {w : World} {aa pa : Option Addr} {ca cq : Nat}, IAt B0 w0 [] aa n ca A → NAt B0 w0 [] pa m cq Pw → Rep B0 w0 L w → Calls Tryz.prog 28 #[grp p q g h, .slice aa n ca, .slice pa m cq, .int .i64 k] w fun e w' => ∃ X : GrN, e = .returned (.tuple #[.slice X.a kk X.cap, .int .i64 ke]) ∧ xCc X kk F ∧ Rep B0 w0 (X.bl ++ L) w') := by
 by_cases hbad : raBad n m k
 ·exact ⟨0, 1, fun _ => 0, Nat.zero_le _, fun j hj => absurd hj (Nat.not_lt_zero j), fun hA hP hR => (raise_bad hn hm hbad hR).mono fun e w' ⟨h1, h2⟩ => ⟨⟨none, 0, []⟩, h1, xBj _, h2⟩, fun hA hP hR => (rraise_bad hn hm hbad hR).mono fun e w' ⟨h1, h2⟩ => ⟨⟨none, 0, []⟩, h1, xBj _, h2⟩⟩
 ·have k1 : ¬ k < 1 := fun h => hbad (.inl h)
  have k3 : n ≠ 0 := fun h => hbad (.inr (.inr (.inl h)))
  have k4 : m = n := Classical.byContradiction fun h => hbad (.inr (.inr (.inr h)))
  subst k4
  obtain ⟨kn, rfl⟩ : ∃ c : Nat, k = (c : Int) := ⟨k.toNat, by omega⟩
  by_cases hE1 : errF (shE1 p A Pw) m = 0
  ·have hmay : ∀ j, j < m → mayG p (Pw j) := fun j hj => by
    have h0 := errF_zero hE1 j hj
    by_cases hb : shBad A j
    ·rw [xHc hb] at h0
     exact absurd h0 (by decide)
    ·rw [xHv hb] at h0
     by_cases hg : mayG p (Pw j)
     ·exact hg
     ·rw [if_neg hg] at h0
      exact absurd h0 (by decide)
   have hs := fun s : Nat => uni_s (p := p) (q := q) (g := g) (h := h) (f := shV1 q A) (Pw := Pw) (n := m) (x := sOf q (-(s : Int) - 1)) hp hq (sOf_ltB hq _) hn k3 hPw hmay
   obtain ⟨V2, E2, key⟩ := choose2 hs
   refine ⟨raK m m (errF (shE1 p A Pw) m) E2 kn, raE m m (errF (shE1 p A Pw) m) E2 kn, V2, Nat.le_trans raK_le (by omega), fun j _ => ?_, fun hA hP hR => raise_go hp hq hn hA hP hbad (fun _ s hs3 L' w c1 c2 c3 cx xa hX hP' m1 m2 m3 hR' => ?_) hR, fun hA hP hR => rraise_go hp hq hn hA hP hbad (fun _ s hs3 => ?_) hR⟩
   ·obtain ⟨kk, F, h1, _⟩ := key j
    exact h1
   ·obtain ⟨kk, F, h1, h0, hkk, hF, cW, _, cP, _⟩ := key s
    by_cases hE : E2 s = 0
    ·rw [hE]
     exact raise2_yes hq (by omega) rfl hE (fun M w hw => cW (hX.mono fun w hw => hw.weaken (List.sublist_append_right _ _)) hw) (fun X M w hX' hm' hw => cP hE (hP'.mono fun w hw => hw.weaken (List.sublist_append_right _ _)) (xEj hX' hF fun x hx => List.mem_append_left _ (hm' x hx)) hw) m1 m2 m3 hR'
    ·rw [h0 hE]
     exact raise2_no hq (by omega) rfl hE (fun M w hw => cW (hX.mono fun w hw => hw.weaken (List.sublist_append_right _ _)) hw) m1 m2 m3 hR'
   ·obtain ⟨kk, F, h1, h0, hkk, hF, _, cW, _, cP⟩ := key s
    exact ⟨kk, F, hkk, hF, cW, fun hE => cP hE⟩
  ·exact ⟨raK m m (errF (shE1 p A Pw) m) (fun _ => 0) kn, raE m m (errF (shE1 p A Pw) m) (fun _ => 0) kn, fun _ => 0, Nat.le_trans raK_le (by omega), fun j _ => xEy, fun hA hP hR => raise_go hp hq hn hA hP hbad (fun h => absurd h hE1) hR, fun hA hP hR => rraise_go hp hq hn hA hP hbad (fun h => absurd h hE1) hR⟩
end
end Go.Proofs.YtaaahfjpnggkbaaGreatDoor
