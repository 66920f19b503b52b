import Derived.Test.YtaaahfjpnggkbaaGreatDoorHSC
import Derived.Test.YtaaahfjpnggkbaaGreatDoorHSR
set_option linter.unusedSimpArgs false
set_option linter.unusedVariables false
set_option maxRecDepth 100000
set_option maxHeartbeats 20000000
namespace Go.Proofs.YtaaahfjpnggkbaaGreatDoor
open Go.RowKit
attribute [local irreducible] Calls Instr.build Instr.buildSlice Instr.makeSlice
section
variable {p q g h : Nat} {n : Nat} {f Pw : Nat → Nat} {x : Nat}
theorem uni_w (hp : p < B) (hq : q < B) (hx : x < B) (hn : n ≤ 1000) : ∃ (k : Nat) (er : Int) (F : Nat → Nat), k ≤ 1000 ∧ (∀ j, j < k → F j < B) ∧ (er = 0 → k = n) ∧
  (∀ {B0 : Nat} {w0 : World} {L : List (Nat × Obj)} {w : World} {a : Option Addr} {cp : Nat}, NAt B0 w0 L a n cp f → Rep B0 w0 L w → Calls Tryz.prog 9 #[grp p q g h, .slice a n cp, num x] w fun e w' => ∃ X : GrN, e = .returned (.tuple #[.slice X.a k X.cap, .int .i64 er]) ∧ xCc X k F ∧ Rep B0 w0 (X.bl ++ L) w') ∧
  (∀ {B0 : Nat} {w0 : World} {L : List (Nat × Obj)} {w : World} {a : Option Addr} {cp : Nat}, NAt B0 w0 L a n cp f → Rep B0 w0 L w → Calls Tryz.prog 12 #[grp p q g h, .slice a n cp, num x] w fun e w' => ∃ X : GrN, e = .returned (.tuple #[.slice X.a k X.cap, .int .i64 er]) ∧ xCc X k F ∧ Rep B0 w0 (X.bl ++ L) w') := by
 classical
 by_cases hok : okW q n f x
 ·obtain ⟨hpts, hxq⟩ := hok
  have h1 : 1 < q := hpts.2.2.1
  have hf := hpts.2.2.2
  haveI : NeZero q := ⟨by omega⟩
  have hall := und_all (q := q) (n := n) (f := f) h1 hf
  by_cases hE : wtE q n f n = 0
  ·have hu := hall.2 hE
   refine ⟨n, 0, wtF q n f x, hn, fun j hj => Nat.lt_trans (xIq h1 (vF_lt h1 j) _) hq, fun _ => rfl, fun hA hR => ?_, fun hA hR => ?_⟩
   ·refine (weights_yes (g := g) (h := h) hp hq hn hA ⟨hpts, hxq⟩ hE hR).mono fun e w' ⟨gb, h1, cur, ho, hR'⟩ => ?_
    exact ⟨⟨some ⟨gb, 0, none⟩, n, [(gb, .cells cur.toArray 24)]⟩, h1, ho.grn, hR'⟩
   ·refine (xJs (p := p) (g := g) (h := h) hq (hA.here hR) (by omega) hpts hxq (Rep.init _)).mono fun e w' hh => ?_
    rcases hh with ⟨_, X, hX, he, hR'⟩ | ⟨hno, _⟩
    ·rw [List.append_nil] at hR'
     exact ⟨X, he, hX.congrU fun j hj => rw_wt h1 hf hj (hu j hj) x, hR.join hR'⟩
    ·exact absurd hu hno
  ·have hu : ¬ ∀ i, i < n → undOK q n f i := fun hu => hE (hall.1 hu)
   refine ⟨0, 7, fun _ => 0, Nat.zero_le _, fun j hj => absurd hj (Nat.not_lt_zero j), fun h => absurd h (by decide), fun hA hR => ?_, fun hA hR => ?_⟩
   ·exact (weights_err (g := g) (h := h) hp hq hn hA ⟨hpts, hxq⟩ hE hR).mono fun e w' ⟨h1, h2⟩ => ⟨⟨none, 0, []⟩, h1, xBj _, h2⟩
   ·refine (xJs (p := p) (g := g) (h := h) hq (hA.here hR) (by omega) hpts hxq (Rep.init _)).mono fun e w' hh => ?_
    rcases hh with ⟨hu', _⟩ | ⟨_, he, hR'⟩
    ·exact absurd hu' hu
    ·exact ⟨⟨none, 0, []⟩, he, xBj _, hR.join hR'⟩
 ·refine ⟨0, 1, fun _ => 0, Nat.zero_le _, fun j hj => absurd hj (Nat.not_lt_zero j), fun h => absurd h (by decide), fun hA hR => ?_, fun hA hR => ?_⟩
  ·exact (weights_no (g := g) (h := h) hp hq hx hn hA hok hR).mono fun e w' ⟨h1, h2⟩ => ⟨⟨none, 0, []⟩, h1, xBj _, h2⟩
  ·exact (rweights_bad (p := p) (g := g) (h := h) hq hx (hA.here hR) (by omega) hok (Rep.init _)).mono fun e w' ⟨h1, h2⟩ => ⟨⟨none, 0, []⟩, h1, xBj _, hR.join h2⟩
theorem up_memB {zs : Nat → Pair} : ∀ {n : Nat} {y : Pair}, y ∈ up zs n → ∃ j, j < n ∧ y = zs j
  | 0, y, hy => by simp [up] at hy
  | n + 1, y, hy => by
    rw [up_succ] at hy
    rcases List.mem_append.1 hy with h | h
    · obtain ⟨j, h1, h2⟩ := up_memB h
      exact ⟨j, by omega, h2⟩
    · exact ⟨n, by omega, List.mem_singleton.1 h⟩
theorem prod_yes {F : Nat → Nat} (hn : n ≠ 0) (hPw : ∀ j, j < n → Pw j < B) (hF : ∀ j, j < n → F j < B) (hmay : ∀ j, j < n → mayG p (Pw j)) {r : Nat} {e : Int} (h : prodRes p n n (zsP Pw F) r e) : e = 0 := by
 rcases h with ⟨_, _, h⟩ | ⟨hno, _⟩
 ·exact h
 ·refine absurd ⟨(hmay 0 (by omega)).1, rfl, fun y hy => ?_⟩ hno
  obtain ⟨j, hj, rfl⟩ := up_memB hy
  rw [zsP_is (hPw j hj) (hF j hj)]
  exact hmay j hj
theorem uni_s (hp : p < B) (hq : q < B) (hx : x < B) (hn : n ≤ 1000) (hn0 : n ≠ 0) (hPw : ∀ j, j < n → Pw j < B) (hmay : ∀ j, j < n → mayG p (Pw j)) : ∃ (v : Nat) (er : Int) (k : Nat) (F : Nat → Nat), v < B ∧ (er ≠ 0 → v = 0) ∧ k ≤ 1000 ∧ (∀ j, j < k → F j < B) ∧
  (∀ {B0 : Nat} {w0 : World} {L : List (Nat × Obj)} {w : World} {a : Option Addr} {cp : Nat}, NAt B0 w0 L a n cp f → Rep B0 w0 L w → Calls Tryz.prog 9 #[grp p q g h, .slice a n cp, num x] w fun e w' => ∃ X : GrN, e = .returned (.tuple #[.slice X.a k X.cap, .int .i64 er]) ∧ xCc X k F ∧ Rep B0 w0 (X.bl ++ L) w') ∧
  (∀ {B0 : Nat} {w0 : World} {L : List (Nat × Obj)} {w : World} {a : Option Addr} {cp : Nat}, NAt B0 w0 L a n cp f → Rep B0 w0 L w → Calls Tryz.prog 12 #[grp p q g h, .slice a n cp, num x] w fun e w' => ∃ X : GrN, e = .returned (.tuple #[.slice X.a k X.cap, .int .i64 er]) ∧ xCc X k F ∧ Rep B0 w0 (X.bl ++ L) w') ∧
  (er = 0 → ∀ {B0 : Nat} {w0 : World} {L : List (Nat × Obj)} {w : World} {pa pn : Option Addr} {ca cn : Nat}, NAt B0 w0 L pa n ca Pw → NAt B0 w0 L pn k cn F → Rep B0 w0 L w → Calls Tryz.prog 111 #[grp p q g h, .slice pa n ca, .slice pn k cn] w fun e w' => e = .returned (.tuple #[num v, .int .i64 0]) ∧ Below w.heap.size w w') ∧
  (er = 0 → ∀ {B0 : Nat} {w0 : World} {L : List (Nat × Obj)} {w : World} {pa pn : Option Addr} {ca cn : Nat}, NAt B0 w0 L pa n ca Pw → NAt B0 w0 L pn k cn F → Rep B0 w0 L w → Calls Tryz.prog 113 #[grp p q g h, .slice pa n ca, .slice pn k cn] w fun e w' => e = .returned (.tuple #[num v, .int .i64 0]) ∧ Below w.heap.size w w') := by
 obtain ⟨k, er, F, hk, hF, hkn, c1, c2⟩ := uni_w (p := p) (q := q) (g := g) (h := h) (f := f) hp hq hx hn
 by_cases hE : er = 0
 ·obtain rfl := hkn hE
  obtain ⟨r, e, hr⟩ := prodRes_ex p k k (zsP Pw F)
  have he := prod_yes hn0 hPw hF hmay hr
  have hrB : r < B := by
   rcases hr with ⟨⟨h1, _⟩, rfl, _⟩ | ⟨_, rfl, _⟩
   ·exact Nat.lt_trans (prodL_lt h1 _) hp
   ·exact xEy
  rw [he] at hr
  exact ⟨r, er, k, F, hrB, fun h => absurd hE h, hk, hF, c1, c2, fun _ => fun hA hN hR => gprod_any hp hq hA hN (by omega) (by omega) hr hR, fun _ => fun hA hN hR => rprod_any hp hq (hA.here hR) (hN.here hR) (by omega) (by omega) hr⟩
 ·exact ⟨0, er, k, F, xEy, fun _ => rfl, hk, hF, c1, c2, fun h => absurd h hE, fun h => absurd h hE⟩
end
end Go.Proofs.YtaaahfjpnggkbaaGreatDoor
