/- What polys and the reference of layer 10 answer is the same: one answer, two contracts. -/
import Derived.Test.YtaaahfjpnggkbaaGreatDoorPBD
import Derived.Test.YtaaahfjpnggkbaaGreatDoorPQ
import Derived.Test.YtaaahfjpnggkbaaGreatDoorPRC
import Derived.Test.YtaaahfjpnggkbaaGreatDoorPRef10F
set_option linter.unusedVariables false
set_option linter.unusedSimpArgs false
namespace Go.Proofs.YtaaahfjpnggkbaaGreatDoor
open Go.RowKit
attribute [local irreducible] Calls Instr.build Instr.buildSlice
section
variable {p q g h : Nat} {B0 : Nat} {w0 : World} {n m : Nat} {f V : Nat → Nat} {x : Nat}
theorem uni_at (hp : p < B) (hq : q < B) (hx : x < B) (hn : n ≤ 1000) : ∃ (rv : Nat) (er : Int), rv < B ∧
    (∀ {L : List (Nat × Obj)} {w : World} {a : Option Addr} {cp : Nat}, NAt B0 w0 L a n cp f → Rep B0 w0 L w → Calls Tryz.prog 8 #[grp p q g h, .slice a n cp, num x] w fun e w' => e = .returned (.tuple #[num rv, .int .i64 er]) ∧ Rep B0 w0 L w') ∧
    (∀ {L : List (Nat × Obj)} {w : World} {a : Option Addr} {cp : Nat}, NAt B0 w0 L a n cp f → Rep B0 w0 L w → Calls Tryz.prog 11 #[grp p q g h, .slice a n cp, num x] w fun e w' => e = .returned (.tuple #[num rv, .int .i64 er]) ∧ Rep B0 w0 L w') := by
  classical
  by_cases hok : okA q n f x
  · obtain ⟨⟨h1, hf⟩, hxq⟩ := hok
    have e : raS q f x n = atN q f n x := by
      have hq0 : 0 < q := by omega
      haveI : NeZero q := ⟨by omega⟩
      unfold atN
      rw [dif_pos hq0]
      exact ra_at h1 (zsOf hq0 f) (fun j hj => by unfold zsOf; rw [dif_pos (hf j hj)]) x
    refine ⟨atN q f n x, 0, Nat.lt_trans (atN_lt h1 _ _ _) hq, fun hA hR => at_yes hp hq hn hA ⟨⟨h1, hf⟩, hxq⟩ hR, fun hA hR => ?_⟩
    have := rat_go (p := p) (g := g) (h := h) hq hA (by omega) h1 hf hxq hR
    rwa [e] at this
  · exact ⟨0, 1, B_pos, fun hA hR => at_no hp hq hx hn hA hok hR, fun hA hR => rat_bad hq hx hA (by omega) (fun ⟨h1, h2, h3⟩ => hok ⟨⟨h1, h2⟩, h3⟩) hR⟩
theorem uni_weights (hp : p < B) (hq : q < B) (hx : x < B) (hn : n ≤ 1000) : ∃ (k : Nat) (er : Int) (F : Nat → Nat), k ≤ 1000 ∧ (∀ j, j < k → F j < B) ∧
    (∀ {L : List (Nat × Obj)} {w : World} {a : Option Addr} {cp : Nat}, NAt B0 w0 L a n cp f → Rep B0 w0 L w → Calls Tryz.prog 9 #[grp p q g h, .slice a n cp, num x] w fun e w' => ∃ X : GrN, e = .returned (.tuple #[.slice X.a k X.cap, .int .i64 er]) ∧ GrNOk X k F ∧ Rep B0 w0 (X.bl ++ L) w') ∧
    (∀ {L : List (Nat × Obj)} {w : World} {a : Option Addr} {cp : Nat}, NAt B0 w0 [] a n cp f → Rep B0 w0 L w → Calls Tryz.prog 12 #[grp p q g h, .slice a n cp, num x] w fun e w' => ∃ X : GrN, e = .returned (.tuple #[.slice X.a k X.cap, .int .i64 er]) ∧ GrNOk X k F ∧ Rep B0 w0 (X.bl ++ L) w') := by
  classical
  by_cases hok : okW q n f x
  · obtain ⟨hpts, hxq⟩ := hok
    have h1 : 1 < q := hpts.2.2.1
    have hf := hpts.2.2.2
    haveI : NeZero q := ⟨by omega⟩
    have hall := und_all (q := q) (n := n) (f := f) h1 hf
    by_cases hE : wtE q n f n = 0
    · have hu := hall.2 hE
      refine ⟨n, 0, wtF q n f x, hn, fun j hj => Nat.lt_trans (prodS_lt h1 (vF_lt h1 j) _) hq, fun hA hR => ?_, fun hA hR => ?_⟩
      · refine (weights_yes (g := g) (h := h) hp hq hn hA ⟨hpts, hxq⟩ hE hR).mono fun e w' ⟨gb, h1, cur, ho, hR'⟩ => ?_
        exact ⟨⟨some ⟨gb, 0, none⟩, n, [(gb, .cells cur.toArray 24)]⟩, h1, ho.grn, hR'⟩
      · refine (rweights_go (p := p) (g := g) (h := h) hq hA (by omega) hpts hxq hR).mono fun e w' hh => ?_
        rcases hh with ⟨_, X, hX, he, hR'⟩ | ⟨hno, _⟩
        · exact ⟨X, he, hX.congrU fun j hj => rw_wt h1 hf hj (hu j hj) x, hR'⟩
        · exact absurd hu hno
    · have hu : ¬ ∀ i, i < n → undOK q n f i := fun hu => hE (hall.1 hu)
      refine ⟨0, 7, fun _ => 0, Nat.zero_le _, fun j hj => absurd hj (Nat.not_lt_zero j), fun hA hR => ?_, fun hA hR => ?_⟩
      · exact (weights_err (g := g) (h := h) hp hq hn hA ⟨hpts, hxq⟩ hE hR).mono fun e w' ⟨h1, h2⟩ => ⟨⟨none, 0, []⟩, h1, grN_zero _, h2⟩
      · refine (rweights_go (p := p) (g := g) (h := h) hq hA (by omega) hpts hxq hR).mono fun e w' hh => ?_
        rcases hh with ⟨hu', _⟩ | ⟨_, he, hR'⟩
        · exact absurd hu' hu
        · exact ⟨⟨none, 0, []⟩, he, grN_zero _, hR'⟩
  · refine ⟨0, 1, fun _ => 0, Nat.zero_le _, fun j hj => absurd hj (Nat.not_lt_zero j), fun hA hR => ?_, fun hA hR => ?_⟩
    · exact (weights_no (g := g) (h := h) hp hq hx hn hA hok hR).mono fun e w' ⟨h1, h2⟩ => ⟨⟨none, 0, []⟩, h1, grN_zero _, h2⟩
    · exact (rweights_bad (p := p) (g := g) (h := h) hq hx hA (by omega) hok hR).mono fun e w' ⟨h1, h2⟩ => ⟨⟨none, 0, []⟩, h1, grN_zero _, h2⟩
theorem uni_through (hp : p < B) (hq : q < B) (hn : n ≤ 1000) (hm : m ≤ 1000) : ∃ (k : Nat) (er : Int) (F : Nat → Nat), k ≤ 1000 ∧ (∀ j, j < k → F j < B) ∧
    (∀ {L : List (Nat × Obj)} {w : World} {a b : Option Addr} {cp cq : Nat}, NAt B0 w0 L a n cp f → NAt B0 w0 L b m cq V → Rep B0 w0 L w → Calls Tryz.prog 10 #[grp p q g h, .slice a n cp, .slice b m cq] w fun e w' => ∃ X : GrN, e = .returned (.tuple #[.slice X.a k X.cap, .int .i64 er]) ∧ GrNOk X k F ∧ Rep B0 w0 (X.bl ++ L) w') ∧
    (∀ {L : List (Nat × Obj)} {w : World} {a b : Option Addr} {cp cq : Nat}, NAt B0 w0 [] a n cp f → NAt B0 w0 [] b m cq V → Rep B0 w0 L w → Calls Tryz.prog 13 #[grp p q g h, .slice a n cp, .slice b m cq] w fun e w' => ∃ X : GrN, e = .returned (.tuple #[.slice X.a k X.cap, .int .i64 er]) ∧ GrNOk X k F ∧ Rep B0 w0 (X.bl ++ L) w') := by
  classical
  by_cases hok : okT q n m f V
  · have hpts := hok.1
    have hmn := hok.2.1
    have hV := hok.2.2
    subst hmn
    have h1 : 1 < q := hpts.2.2.1
    have hf := hpts.2.2.2
    haveI : NeZero q := ⟨by omega⟩
    have hall := und_all (q := q) (n := m) (f := f) h1 hf
    by_cases hE : wtE q m f m = 0
    · have hu := hall.2 hE
      refine ⟨m, 0, outF q m f V m, hm, fun j hj => Nat.lt_trans (outF_lt h1 m j) hq, fun hA hB hR => ?_, fun hA hB hR => ?_⟩
      · refine (through_yes (g := g) (h := h) hp hq hn hA hB hok hE hR).mono fun e w' ⟨gb, h1, cur, ho, hR'⟩ => ?_
        exact ⟨⟨some ⟨gb, 0, none⟩, m, [(gb, .cells cur.toArray 24)]⟩, h1, ho.grn, hR'⟩
      · refine (rthrough_go (p := p) (g := g) (h := h) hq hA hB hn hpts hV hR).mono fun e w' hh => ?_
        rcases hh with ⟨_, gb, he, cur, ho, hR'⟩ | ⟨hno, _⟩
        · exact ⟨⟨some ⟨gb, 0, none⟩, m, [(gb, .cells cur.toArray 24)]⟩, he, ho.grn.congrU fun j hj => ro_out h1 hf V hu m (Nat.le_refl m) j hj, hR'⟩
        · exact absurd hu hno
    · have hu : ¬ ∀ i, i < m → undOK q m f i := fun hu => hE (hall.1 hu)
      refine ⟨0, 7, fun _ => 0, Nat.zero_le _, fun j hj => absurd hj (Nat.not_lt_zero j), fun hA hB hR => ?_, fun hA hB hR => ?_⟩
      · exact (through_err (g := g) (h := h) hp hq hn hA hB hok hE hR).mono fun e w' ⟨h1, h2⟩ => ⟨⟨none, 0, []⟩, h1, grN_zero _, h2⟩
      · refine (rthrough_go (p := p) (g := g) (h := h) hq hA hB hn hpts hV hR).mono fun e w' hh => ?_
        rcases hh with ⟨hu', _⟩ | ⟨_, he, hR'⟩
        · exact absurd hu' hu
        · exact ⟨⟨none, 0, []⟩, he, grN_zero _, hR'⟩
  · refine ⟨0, 1, fun _ => 0, Nat.zero_le _, fun j hj => absurd hj (Nat.not_lt_zero j), fun hA hB hR => ?_, fun hA hB hR => ?_⟩
    · exact (through_no (g := g) (h := h) hp hq hn hm hA hB hok hR).mono fun e w' ⟨h1, h2⟩ => ⟨⟨none, 0, []⟩, h1, grN_zero _, h2⟩
    · exact (rthrough_bad (p := p) (g := g) (h := h) hq hA hB hn hm hok hR).mono fun e w' ⟨h1, h2⟩ => ⟨⟨none, 0, []⟩, h1, grN_zero _, h2⟩
end
end Go.Proofs.YtaaahfjpnggkbaaGreatDoor
