/- The walk of balefirelaw10.PolysMoved. -/
import Derived.Test.YtgfoeongjhkdmaaJPAlive
import Derived.Test.YtgfoeongjhkdmaaJV
import Derived.Test.YtgfoeongjhkdmaaJM
set_option linter.unusedVariables false
set_option linter.unusedSimpArgs false
namespace Go.Proofs.Ytgfoeongjhkdmaa
open Go.RowKit
attribute [local irreducible] Calls Instr.build Instr.buildSlice
set_option maxRecDepth 100000 in
set_option maxHeartbeats 8000000 in
set_option maxRecDepth 100000 in
theorem polysmoved_walk (W : World) (p q g h : Nat) (hp : p < B) (hq : q < B) (hg : g < B) (hh : h < B) (a : Option Addr) (n cp : Nat) (f : Nat → Nat) (xx yy zz : Nat) (S1 : NAt W.heap.size W [] a n cp f) (hx : xx < B) (hy : yy < B) (hz : zz < B) :
    Calls Try.prog 5 #[grp p q g h, .slice a n cp, num3 xx yy zz] W fun e w' => e = .returned (.bool true) ∧ Below W.heap.size W w' := by
  classical
  have hR := Rep.init W
  have r0 : ((nl3 xx yy zz).drop 0).take 4 = nl xx := rfl
  have r1 : ((nl3 xx yy zz).drop 4).take 4 = nl yy := rfl
  have r2 : ((nl3 xx yy zz).drop 8).take 4 = nl zz := rfl
  by_cases h20 : n ≤ 20
  case neg =>
    have t1 : (20 : Int) < (n : Int) := by omega
    clear S1 hp hq hg hh hx hy hz h20
    go_enter Try.func5, Try.ntmps5
    go_wp2_with (first | (refine' xAb hR rfl rfl rfl ?_; clear hR; intro blk w hR) | (refine' xAa hR rfl rfl inferInstance ?_; clear hR; intro blk w hR) | (refine' aFq hR rfl rfl rfl inferInstance ?_) | (refine' aGq hR rfl rfl rfl inferInstance ?_) | (refine' aHq hR rfl rfl rfl inferInstance ?_) | (refine' aIq hR rfl rfl rfl inferInstance rfl ?_; clear hR; intro w hR) | (refine' aJq hR rfl rfl rfl inferInstance rfl rfl ?_; clear hR; intro w hR) | (refine' xBk hR rfl rfl rfl inferInstance ?hm ?hn ?_; (case hm => first | with_reducible assumption | repeat (first | exact .head _ | with_reducible assumption | apply mC)); (case hn => first | rfl | simp)) | (refine' xBe hR rfl rfl rfl inferInstance ?hm ?hv ?_; (case hm => first | with_reducible assumption | repeat (first | exact .head _ | with_reducible assumption | apply mC)); (case hv => first | rfl | with_reducible assumption)) | (go_at_call 9; refine (alive10 _).mono ?_; rintro e w ⟨rfl, hb⟩; replace hR := hR.call hb; clear hb))
    go_ret
    exact ⟨rfl, hR.below⟩
  have t1 : ¬ (20 : Int) < (n : Int) := by omega
  have hm1 : n ≤ 1000 := by omega
  obtain ⟨iv, hiv⟩ : ∃ v, (if okE zz q then invM zz q else 0) = v := ⟨_, rfl⟩
  obtain ⟨ie, hie⟩ : ∃ v, invE zz q = v := ⟨_, rfl⟩
  have cI := sinv_lit (p := p) (g := g) (h := h) hz hq hiv hie
  obtain ⟨pl, hpl⟩ : ∃ v, (if okM xx yy q then (xx + yy) % q else 0) = v := ⟨_, rfl⟩
  obtain ⟨pe, hpe⟩ : ∃ v, (if okM xx yy q then (0 : Int) else 1) = v := ⟨_, rfl⟩
  have cA := sadd_lit (p := p) (g := g) (h := h) hx hy hq hpl hpe
  by_cases hok : okW q n f xx ∧ wtE q n f n = 0
  case neg =>
    obtain ⟨ew, hew, cW⟩ : ∃ ew : Int, ew ≠ 0 ∧ ∀ (L : List (Nat × Obj)) (w : World), Rep W.heap.size W L w → Calls Try.prog 16 #[grp p q g h, .slice a n cp, num xx] w fun e w' => e = .returned (.tuple #[.slice none 0 0, .int .i64 ew]) ∧ Rep W.heap.size W L w' := by
      by_cases hW : okW q n f xx
      · exact ⟨7, by decide, fun L w hw => weights_err (g := g) (h := h) hp hq hm1 (S1.any (L := L)) hW (fun hE => hok ⟨hW, hE⟩) hw⟩
      · exact ⟨1, by decide, fun L w hw => weights_no (g := g) (h := h) hp hq hx hm1 (S1.any (L := L)) hW hw⟩
    have e1 : (ew == 0) = false := by simp; exact hew
    have e2 : (ew != 0) = true := by simp; exact hew
    clear S1 hp hq hg hh hx hy hz h20 hok hiv hie hpl hpe hm1
    go_enter Try.func5, Try.ntmps5
    go_wp2_with (first | (refine' xAb hR rfl rfl rfl ?_; clear hR; intro blk w hR) | (refine' xAa hR rfl rfl inferInstance ?_; clear hR; intro blk w hR) | (refine' aFq hR rfl rfl rfl inferInstance ?_) | (refine' aGq hR rfl rfl rfl inferInstance ?_) | (refine' aHq hR rfl rfl rfl inferInstance ?_) | (refine' aIq hR rfl rfl rfl inferInstance rfl ?_; clear hR; intro w hR) | (refine' aJq hR rfl rfl rfl inferInstance rfl rfl ?_; clear hR; intro w hR) | (refine' xBk hR rfl rfl rfl inferInstance ?hm ?hn ?_; (case hm => first | with_reducible assumption | repeat (first | exact .head _ | with_reducible assumption | apply mC)); (case hn => first | rfl | simp)) | (refine' xBe hR rfl rfl rfl inferInstance ?hm ?hv ?_; (case hm => first | with_reducible assumption | repeat (first | exact .head _ | with_reducible assumption | apply mC)); (case hv => first | rfl | with_reducible assumption)) | (go_at_call 9; refine (alive10 _).mono ?_; rintro e w ⟨rfl, hb⟩; replace hR := hR.call hb; clear hb) | (go_at_call 16; refine (cW _ _ hR).mono ?_; clear hR; rintro e w ⟨rfl, hR⟩) | (go_at_call 17; refine (cI _).mono ?_; rintro e w ⟨rfl, hb⟩; replace hR := hR.call hb; clear hb) | (go_at_call 14; refine (cA _).mono ?_; rintro e w ⟨rfl, hb⟩; replace hR := hR.call hb; clear hb))
    go_ret
    exact ⟨rfl, hR.below⟩
  obtain ⟨hW, hE⟩ := hok
  have cW := fun (L : List (Nat × Obj)) (w : World) (hw : Rep W.heap.size W L w) => weights_yes (g := g) (h := h) hp hq hm1 (S1.any (L := L)) hW hE hw
  by_cases hi : ie = 0
  case neg =>
    have e1 : (ie == 0) = false := by simp; exact hi
    have e2 : (ie != 0) = true := by simp; exact hi
    clear S1 hp hq hg hh hx hy hz h20 hW hE hiv hie hpl hpe hm1 hi
    go_enter Try.func5, Try.ntmps5
    go_wp2_with (first | (refine' xAb hR rfl rfl rfl ?_; clear hR; intro blk w hR) | (refine' xAa hR rfl rfl inferInstance ?_; clear hR; intro blk w hR) | (refine' aFq hR rfl rfl rfl inferInstance ?_) | (refine' aGq hR rfl rfl rfl inferInstance ?_) | (refine' aHq hR rfl rfl rfl inferInstance ?_) | (refine' aIq hR rfl rfl rfl inferInstance rfl ?_; clear hR; intro w hR) | (refine' aJq hR rfl rfl rfl inferInstance rfl rfl ?_; clear hR; intro w hR) | (refine' xBk hR rfl rfl rfl inferInstance ?hm ?hn ?_; (case hm => first | with_reducible assumption | repeat (first | exact .head _ | with_reducible assumption | apply mC)); (case hn => first | rfl | simp)) | (refine' xBe hR rfl rfl rfl inferInstance ?hm ?hv ?_; (case hm => first | with_reducible assumption | repeat (first | exact .head _ | with_reducible assumption | apply mC)); (case hv => first | rfl | with_reducible assumption)) | (go_at_call 9; refine (alive10 _).mono ?_; rintro e w ⟨rfl, hb⟩; replace hR := hR.call hb; clear hb) | (go_at_call 16; refine (cW _ _ hR).mono ?_; clear hR; rintro e w ⟨gb, rfl, cur, ho, hR⟩) | (go_at_call 17; refine (cI _).mono ?_; rintro e w ⟨rfl, hb⟩; replace hR := hR.call hb; clear hb) | (go_at_call 14; refine (cA _).mono ?_; rintro e w ⟨rfl, hb⟩; replace hR := hR.call hb; clear hb))
    go_ret
    exact ⟨rfl, hR.below⟩
  obtain ⟨hpts, hxq⟩ := hW
  have h1 : 1 < q := hpts.2.2.1
  have hzg : zz < q ∧ Nat.gcd zz q = 1 := by
    rw [hi] at hie
    unfold invE at hie
    by_cases hoz : okE zz q
    · rw [if_pos hoz] at hie
      refine ⟨hoz.2, ?_⟩
      by_cases hgz : Nat.gcd zz q = 1
      · exact hgz
      · rw [if_neg hgz] at hie; cases hie
    · rw [if_neg hoz] at hie; cases hie
  subst hi
  by_cases hyq : yy < q
  case neg =>
    have hpe1 : pe = 1 := by rw [← hpe, if_neg (fun h => hyq h.2.2)]
    subst hpe1
    clear S1 hp hq hg hh hx hy hz h20 hE hiv hie hpl hpe hm1 hpts hxq h1 hzg hyq
    go_enter Try.func5, Try.ntmps5
    go_wp2_with (first | (refine' xAb hR rfl rfl rfl ?_; clear hR; intro blk w hR) | (refine' xAa hR rfl rfl inferInstance ?_; clear hR; intro blk w hR) | (refine' aFq hR rfl rfl rfl inferInstance ?_) | (refine' aGq hR rfl rfl rfl inferInstance ?_) | (refine' aHq hR rfl rfl rfl inferInstance ?_) | (refine' aIq hR rfl rfl rfl inferInstance rfl ?_; clear hR; intro w hR) | (refine' aJq hR rfl rfl rfl inferInstance rfl rfl ?_; clear hR; intro w hR) | (refine' xBk hR rfl rfl rfl inferInstance ?hm ?hn ?_; (case hm => first | with_reducible assumption | repeat (first | exact .head _ | with_reducible assumption | apply mC)); (case hn => first | rfl | simp)) | (refine' xBe hR rfl rfl rfl inferInstance ?hm ?hv ?_; (case hm => first | with_reducible assumption | repeat (first | exact .head _ | with_reducible assumption | apply mC)); (case hv => first | rfl | with_reducible assumption)) | (go_at_call 9; refine (alive10 _).mono ?_; rintro e w ⟨rfl, hb⟩; replace hR := hR.call hb; clear hb) | (go_at_call 16; refine (cW _ _ hR).mono ?_; clear hR; rintro e w ⟨gb, rfl, cur, ho, hR⟩) | (go_at_call 17; refine (cI _).mono ?_; rintro e w ⟨rfl, hb⟩; replace hR := hR.call hb; clear hb) | (go_at_call 14; refine (cA _).mono ?_; rintro e w ⟨rfl, hb⟩; replace hR := hR.call hb; clear hb))
    go_ret
    exact ⟨rfl, hR.below⟩
  rw [if_pos ⟨h1, hxq, hyq⟩] at hpe hpl
  subst hpe
  obtain ⟨th, hth⟩ : ∃ v, mulN xx zz q = v := ⟨_, rfl⟩
  have cM := smul_lit (p := p) (g := g) (h := h) (r := th) (e := 0) hx hz hq (by rw [if_pos ⟨h1, hxq, hzg.1⟩, hth]) (by rw [if_pos ⟨h1, hxq, hzg.1⟩])
  replace S1 := Held.mk S1
  replace hpts := Held.mk hpts
  replace hE := Held.mk hE
  replace hzg := Held.mk hzg
  replace h1 := Held.mk h1
  replace hm1 := Held.mk hm1
  replace hyq := Held.mk hyq
  replace hxq := Held.mk hxq
  replace hpl := Held.mk hpl
  replace hth := Held.mk hth
  clear hie hiv hg hh h20
  go_enter Try.func5, Try.ntmps5
  go_wp2_with (first | (refine' xAb hR rfl rfl rfl ?_; clear hR; intro blk w hR) | (refine' xAa hR rfl rfl inferInstance ?_; clear hR; intro blk w hR) | (refine' aFq hR rfl rfl rfl inferInstance ?_) | (refine' aGq hR rfl rfl rfl inferInstance ?_) | (refine' aHq hR rfl rfl rfl inferInstance ?_) | (refine' aIq hR rfl rfl rfl inferInstance rfl ?_; clear hR; intro w hR) | (refine' aJq hR rfl rfl rfl inferInstance rfl rfl ?_; clear hR; intro w hR) | (refine' xBk hR rfl rfl rfl inferInstance ?hm ?hn ?_; (case hm => first | with_reducible assumption | repeat (first | exact .head _ | with_reducible assumption | apply mC)); (case hn => first | rfl | simp)) | (refine' xBe hR rfl rfl rfl inferInstance ?hm ?hv ?_; (case hm => first | with_reducible assumption | repeat (first | exact .head _ | with_reducible assumption | apply mC)); (case hv => first | rfl | with_reducible assumption)) | (go_at_call 9; refine (alive10 _).mono ?_; rintro e w ⟨rfl, hb⟩; replace hR := hR.call hb; clear hb) | (go_at_call 16; refine (cW _ _ hR).mono ?_; clear hR; rintro e w ⟨gb, rfl, cur, ho, hR⟩; replace ho := Held.mk ho) | (go_at_call 17; refine (cI _).mono ?_; rintro e w ⟨rfl, hb⟩; replace hR := hR.call hb; clear hb) | (go_at_call 14; refine (cA _).mono ?_; rintro e w ⟨rfl, hb⟩; replace hR := hR.call hb; clear hb) | (go_at_call 15; refine (cM _).mono ?_; rintro e w ⟨rfl, hb⟩; replace hR := hR.call hb; clear hb))
  clear cW cI cA cM
  (first | (rename_i b11; change Nat at b11) | (rename_i b11 _; change Nat at b11) | (rename_i b11 _ _; change Nat at b11) | (rename_i b11 _ _ _; change Nat at b11) | (rename_i b11 _ _ _ _; change Nat at b11) | (rename_i b11 _ _ _ _ _; change Nat at b11) | (rename_i b11 _ _ _ _ _ _; change Nat at b11) | (rename_i b11 _ _ _ _ _ _ _; change Nat at b11) | (rename_i b11 _ _ _ _ _ _ _ _; change Nat at b11) | (rename_i b11 _ _ _ _ _ _ _ _ _; change Nat at b11) | (rename_i b11 _ _ _ _ _ _ _ _ _ _; change Nat at b11) | (rename_i b11 _ _ _ _ _ _ _ _ _ _ _; change Nat at b11) | (rename_i b11 _ _ _ _ _ _ _ _ _ _ _ _; change Nat at b11) | (rename_i b11 _ _ _ _ _ _ _ _ _ _ _ _ _; change Nat at b11) | (rename_i b11 _ _ _ _ _ _ _ _ _ _ _ _ _ _; change Nat at b11) | (rename_i b11 _ _ _ _ _ _ _ _ _ _ _ _ _ _ _; change Nat at b11) | (rename_i b11 _ _ _ _ _ _ _ _ _ _ _ _ _ _ _ _; change Nat at b11) | (rename_i b11 _ _ _ _ _ _ _ _ _ _ _ _ _ _ _ _ _; change Nat at b11) | (rename_i b11 _ _ _ _ _ _ _ _ _ _ _ _ _ _ _ _ _ _; change Nat at b11) | (rename_i b11 _ _ _ _ _ _ _ _ _ _ _ _ _ _ _ _ _ _ _; change Nat at b11) | (rename_i b11 _ _ _ _ _ _ _ _ _ _ _ _ _ _ _ _ _ _ _ _; change Nat at b11) | (rename_i b11 _ _ _ _ _ _ _ _ _ _ _ _ _ _ _ _ _ _ _ _ _; change Nat at b11) | (rename_i b11 _ _ _ _ _ _ _ _ _ _ _ _ _ _ _ _ _ _ _ _ _ _; change Nat at b11) | (rename_i b11 _ _ _ _ _ _ _ _ _ _ _ _ _ _ _ _ _ _ _ _ _ _ _; change Nat at b11) | (rename_i b11 _ _ _ _ _ _ _ _ _ _ _ _ _ _ _ _ _ _ _ _ _ _ _ _; change Nat at b11) | (rename_i b11 _ _ _ _ _ _ _ _ _ _ _ _ _ _ _ _ _ _ _ _ _ _ _ _ _; change Nat at b11) | (rename_i b11 _ _ _ _ _ _ _ _ _ _ _ _ _ _ _ _ _ _ _ _ _ _ _ _ _ _; change Nat at b11) | (rename_i b11 _ _ _ _ _ _ _ _ _ _ _ _ _ _ _ _ _ _ _ _ _ _ _ _ _ _ _; change Nat at b11) | (rename_i b11 _ _ _ _ _ _ _ _ _ _ _ _ _ _ _ _ _ _ _ _ _ _ _ _ _ _ _ _; change Nat at b11) | (rename_i b11 _ _ _ _ _ _ _ _ _ _ _ _ _ _ _ _ _ _ _ _ _ _ _ _ _ _ _ _ _; change Nat at b11))
  (first | (rename_i b9; change Nat at b9) | (rename_i b9 _; change Nat at b9) | (rename_i b9 _ _; change Nat at b9) | (rename_i b9 _ _ _; change Nat at b9) | (rename_i b9 _ _ _ _; change Nat at b9) | (rename_i b9 _ _ _ _ _; change Nat at b9) | (rename_i b9 _ _ _ _ _ _; change Nat at b9) | (rename_i b9 _ _ _ _ _ _ _; change Nat at b9) | (rename_i b9 _ _ _ _ _ _ _ _; change Nat at b9) | (rename_i b9 _ _ _ _ _ _ _ _ _; change Nat at b9) | (rename_i b9 _ _ _ _ _ _ _ _ _ _; change Nat at b9) | (rename_i b9 _ _ _ _ _ _ _ _ _ _ _; change Nat at b9) | (rename_i b9 _ _ _ _ _ _ _ _ _ _ _ _; change Nat at b9) | (rename_i b9 _ _ _ _ _ _ _ _ _ _ _ _ _; change Nat at b9) | (rename_i b9 _ _ _ _ _ _ _ _ _ _ _ _ _ _; change Nat at b9) | (rename_i b9 _ _ _ _ _ _ _ _ _ _ _ _ _ _ _; change Nat at b9) | (rename_i b9 _ _ _ _ _ _ _ _ _ _ _ _ _ _ _ _; change Nat at b9) | (rename_i b9 _ _ _ _ _ _ _ _ _ _ _ _ _ _ _ _ _; change Nat at b9) | (rename_i b9 _ _ _ _ _ _ _ _ _ _ _ _ _ _ _ _ _ _; change Nat at b9) | (rename_i b9 _ _ _ _ _ _ _ _ _ _ _ _ _ _ _ _ _ _ _; change Nat at b9) | (rename_i b9 _ _ _ _ _ _ _ _ _ _ _ _ _ _ _ _ _ _ _ _; change Nat at b9) | (rename_i b9 _ _ _ _ _ _ _ _ _ _ _ _ _ _ _ _ _ _ _ _ _; change Nat at b9) | (rename_i b9 _ _ _ _ _ _ _ _ _ _ _ _ _ _ _ _ _ _ _ _ _ _; change Nat at b9) | (rename_i b9 _ _ _ _ _ _ _ _ _ _ _ _ _ _ _ _ _ _ _ _ _ _ _; change Nat at b9) | (rename_i b9 _ _ _ _ _ _ _ _ _ _ _ _ _ _ _ _ _ _ _ _ _ _ _ _; change Nat at b9) | (rename_i b9 _ _ _ _ _ _ _ _ _ _ _ _ _ _ _ _ _ _ _ _ _ _ _ _ _; change Nat at b9) | (rename_i b9 _ _ _ _ _ _ _ _ _ _ _ _ _ _ _ _ _ _ _ _ _ _ _ _ _ _; change Nat at b9) | (rename_i b9 _ _ _ _ _ _ _ _ _ _ _ _ _ _ _ _ _ _ _ _ _ _ _ _ _ _ _; change Nat at b9) | (rename_i b9 _ _ _ _ _ _ _ _ _ _ _ _ _ _ _ _ _ _ _ _ _ _ _ _ _ _ _ _; change Nat at b9) | (rename_i b9 _ _ _ _ _ _ _ _ _ _ _ _ _ _ _ _ _ _ _ _ _ _ _ _ _ _ _ _ _; change Nat at b9))
  (first | (rename_i b5; change Nat at b5) | (rename_i b5 _; change Nat at b5) | (rename_i b5 _ _; change Nat at b5) | (rename_i b5 _ _ _; change Nat at b5) | (rename_i b5 _ _ _ _; change Nat at b5) | (rename_i b5 _ _ _ _ _; change Nat at b5) | (rename_i b5 _ _ _ _ _ _; change Nat at b5) | (rename_i b5 _ _ _ _ _ _ _; change Nat at b5) | (rename_i b5 _ _ _ _ _ _ _ _; change Nat at b5) | (rename_i b5 _ _ _ _ _ _ _ _ _; change Nat at b5) | (rename_i b5 _ _ _ _ _ _ _ _ _ _; change Nat at b5) | (rename_i b5 _ _ _ _ _ _ _ _ _ _ _; change Nat at b5) | (rename_i b5 _ _ _ _ _ _ _ _ _ _ _ _; change Nat at b5) | (rename_i b5 _ _ _ _ _ _ _ _ _ _ _ _ _; change Nat at b5) | (rename_i b5 _ _ _ _ _ _ _ _ _ _ _ _ _ _; change Nat at b5) | (rename_i b5 _ _ _ _ _ _ _ _ _ _ _ _ _ _ _; change Nat at b5) | (rename_i b5 _ _ _ _ _ _ _ _ _ _ _ _ _ _ _ _; change Nat at b5) | (rename_i b5 _ _ _ _ _ _ _ _ _ _ _ _ _ _ _ _ _; change Nat at b5) | (rename_i b5 _ _ _ _ _ _ _ _ _ _ _ _ _ _ _ _ _ _; change Nat at b5) | (rename_i b5 _ _ _ _ _ _ _ _ _ _ _ _ _ _ _ _ _ _ _; change Nat at b5) | (rename_i b5 _ _ _ _ _ _ _ _ _ _ _ _ _ _ _ _ _ _ _ _; change Nat at b5) | (rename_i b5 _ _ _ _ _ _ _ _ _ _ _ _ _ _ _ _ _ _ _ _ _; change Nat at b5) | (rename_i b5 _ _ _ _ _ _ _ _ _ _ _ _ _ _ _ _ _ _ _ _ _ _; change Nat at b5) | (rename_i b5 _ _ _ _ _ _ _ _ _ _ _ _ _ _ _ _ _ _ _ _ _ _ _; change Nat at b5) | (rename_i b5 _ _ _ _ _ _ _ _ _ _ _ _ _ _ _ _ _ _ _ _ _ _ _ _; change Nat at b5) | (rename_i b5 _ _ _ _ _ _ _ _ _ _ _ _ _ _ _ _ _ _ _ _ _ _ _ _ _; change Nat at b5) | (rename_i b5 _ _ _ _ _ _ _ _ _ _ _ _ _ _ _ _ _ _ _ _ _ _ _ _ _ _; change Nat at b5) | (rename_i b5 _ _ _ _ _ _ _ _ _ _ _ _ _ _ _ _ _ _ _ _ _ _ _ _ _ _ _; change Nat at b5) | (rename_i b5 _ _ _ _ _ _ _ _ _ _ _ _ _ _ _ _ _ _ _ _ _ _ _ _ _ _ _ _; change Nat at b5) | (rename_i b5 _ _ _ _ _ _ _ _ _ _ _ _ _ _ _ _ _ _ _ _ _ _ _ _ _ _ _ _ _; change Nat at b5))
  (first | (rename_i b3; change Nat at b3) | (rename_i b3 _; change Nat at b3) | (rename_i b3 _ _; change Nat at b3) | (rename_i b3 _ _ _; change Nat at b3) | (rename_i b3 _ _ _ _; change Nat at b3) | (rename_i b3 _ _ _ _ _; change Nat at b3) | (rename_i b3 _ _ _ _ _ _; change Nat at b3) | (rename_i b3 _ _ _ _ _ _ _; change Nat at b3) | (rename_i b3 _ _ _ _ _ _ _ _; change Nat at b3) | (rename_i b3 _ _ _ _ _ _ _ _ _; change Nat at b3) | (rename_i b3 _ _ _ _ _ _ _ _ _ _; change Nat at b3) | (rename_i b3 _ _ _ _ _ _ _ _ _ _ _; change Nat at b3) | (rename_i b3 _ _ _ _ _ _ _ _ _ _ _ _; change Nat at b3) | (rename_i b3 _ _ _ _ _ _ _ _ _ _ _ _ _; change Nat at b3) | (rename_i b3 _ _ _ _ _ _ _ _ _ _ _ _ _ _; change Nat at b3) | (rename_i b3 _ _ _ _ _ _ _ _ _ _ _ _ _ _ _; change Nat at b3) | (rename_i b3 _ _ _ _ _ _ _ _ _ _ _ _ _ _ _ _; change Nat at b3) | (rename_i b3 _ _ _ _ _ _ _ _ _ _ _ _ _ _ _ _ _; change Nat at b3) | (rename_i b3 _ _ _ _ _ _ _ _ _ _ _ _ _ _ _ _ _ _; change Nat at b3) | (rename_i b3 _ _ _ _ _ _ _ _ _ _ _ _ _ _ _ _ _ _ _; change Nat at b3) | (rename_i b3 _ _ _ _ _ _ _ _ _ _ _ _ _ _ _ _ _ _ _ _; change Nat at b3) | (rename_i b3 _ _ _ _ _ _ _ _ _ _ _ _ _ _ _ _ _ _ _ _ _; change Nat at b3) | (rename_i b3 _ _ _ _ _ _ _ _ _ _ _ _ _ _ _ _ _ _ _ _ _ _; change Nat at b3) | (rename_i b3 _ _ _ _ _ _ _ _ _ _ _ _ _ _ _ _ _ _ _ _ _ _ _; change Nat at b3) | (rename_i b3 _ _ _ _ _ _ _ _ _ _ _ _ _ _ _ _ _ _ _ _ _ _ _ _; change Nat at b3) | (rename_i b3 _ _ _ _ _ _ _ _ _ _ _ _ _ _ _ _ _ _ _ _ _ _ _ _ _; change Nat at b3) | (rename_i b3 _ _ _ _ _ _ _ _ _ _ _ _ _ _ _ _ _ _ _ _ _ _ _ _ _ _; change Nat at b3) | (rename_i b3 _ _ _ _ _ _ _ _ _ _ _ _ _ _ _ _ _ _ _ _ _ _ _ _ _ _ _; change Nat at b3) | (rename_i b3 _ _ _ _ _ _ _ _ _ _ _ _ _ _ _ _ _ _ _ _ _ _ _ _ _ _ _ _; change Nat at b3) | (rename_i b3 _ _ _ _ _ _ _ _ _ _ _ _ _ _ _ _ _ _ _ _ _ _ _ _ _ _ _ _ _; change Nat at b3))
  try simp only [Act.put, kA, kB, List.setIfInBounds_toArray]
  refine' xBx (false :: false :: false :: false :: false :: false :: false :: false :: false :: false :: false :: false :: false :: false :: false :: false :: false :: false :: true :: true :: true :: true :: false :: false :: false :: false :: false :: false :: false :: false :: false :: false :: false :: false :: false :: false :: false :: false :: false :: false :: false :: false :: false :: false :: false :: false :: false :: false :: false :: false :: false :: false :: false :: false :: false :: false :: false :: false :: false :: false :: false :: false :: false :: false :: false :: false :: false :: false :: false :: false :: false :: false :: false :: false :: false :: false :: false :: false :: false :: false :: false :: false :: false :: false :: false :: false :: false :: true :: true :: true :: true :: true :: true :: true :: true :: true :: true :: true :: true :: true :: true :: true :: true :: true :: true :: true :: true :: true :: true :: true :: true :: true :: true :: true :: true :: true :: true :: true :: true :: true :: true :: true :: true :: true :: true :: true :: true :: true :: true :: false :: false :: false :: false :: false :: false :: false :: false :: false :: false :: false :: false :: false :: false :: false :: false :: false :: false :: false :: false :: false :: false :: false :: false :: false :: false :: false :: false :: false :: false :: false :: false :: false :: false :: []) (fun (v : Nat × GrN × GrN) l => ((l.set 15 (.slice v.2.1.a v.1 v.2.1.cap)).set 16 (.slice v.2.2.a v.1 v.2.2.cap)).set 17 (.int .i64 (v.1 : Int))) (fun v => (blk, .cells (nl th).toArray 24) :: (b11, .cells (nl pl).toArray 24) :: (b9, .cells (nl iv).toArray 24) :: (gb, .cells cur.toArray 24) :: (b5, .cells (nl3 xx yy zz).toArray 41) :: (b3, .cells (gl p q g h).toArray 26) :: (v.2.1.bl ++ v.2.2.bl)) (fun v => n - v.1) (fun v => v.1 ≤ n ∧ GrNOk v.2.1 v.1 (fun j => (f j + yy) % q) ∧ GrNOk v.2.2 v.1 (fun j => mulN (f j) zz q)) (0, ⟨none, 0, []⟩, ⟨none, 0, []⟩) ?h0 ?hO ?hR ?hs
  case h0 => exact xBd rfl rfl rfl
  case hO => exact ⟨Nat.zero_le _, grN_zero _, grN_zero _⟩
  case hR => exact hR
  case hs =>
    clear hR
    intro v tm w hO ht hR K hK
    obtain ⟨i, X0, Y0⟩ := v
    obtain ⟨hi, hX, hY⟩ := hO
    simp only at hi hX hY ht hR
    have g0 : 0 ≤ (i : Int) := by omega
    by_cases hik : i = n
    · subst hik
      clear hK
      have u1 : ¬ (i : Int) < (i : Int) := by omega
      have hq1 := h1.out
      have lwt : ∀ (F : Nat → Nat) (v j : Nat), wtF q i F v j < q := fun F v j => prodS_lt hq1 (vF_lt hq1 j) _
      have memX : ∀ (M : List (Nat × Obj)), ∀ p', p' ∈ X0.bl → p' ∈ M ++ ((blk, .cells (nl th).toArray 24) :: (b11, .cells (nl pl).toArray 24) :: (b9, .cells (nl iv).toArray 24) :: (gb, .cells cur.toArray 24) :: (b5, .cells (nl3 xx yy zz).toArray 41) :: (b3, .cells (gl p q g h).toArray 26) :: (X0.bl ++ Y0.bl)) := fun M p' hp' => List.mem_append_right _ (.tail _ (.tail _ (.tail _ (.tail _ (.tail _ (.tail _ (List.mem_append_left _ hp')))))))
      have memY : ∀ (M : List (Nat × Obj)), ∀ p', p' ∈ Y0.bl → p' ∈ M ++ ((blk, .cells (nl th).toArray 24) :: (b11, .cells (nl pl).toArray 24) :: (b9, .cells (nl iv).toArray 24) :: (gb, .cells cur.toArray 24) :: (b5, .cells (nl3 xx yy zz).toArray 41) :: (b3, .cells (gl p q g h).toArray 26) :: (X0.bl ++ Y0.bl)) := fun M p' hp' => List.mem_append_right _ (.tail _ (.tail _ (.tail _ (.tail _ (.tail _ (.tail _ (List.mem_append_right _ hp')))))))
      have w1 : ∀ (M : List (Nat × Obj)) (w : World), Rep W.heap.size W (M ++ ((blk, .cells (nl th).toArray 24) :: (b11, .cells (nl pl).toArray 24) :: (b9, .cells (nl iv).toArray 24) :: (gb, .cells cur.toArray 24) :: (b5, .cells (nl3 xx yy zz).toArray 41) :: (b3, .cells (gl p q g h).toArray 26) :: (X0.bl ++ Y0.bl))) w → Calls Try.prog 16 #[grp p q g h, .slice X0.a i X0.cap, num pl] w fun en w' => ∃ gb1, en = .returned (.tuple #[.slice (some ⟨gb1, 0, none⟩) i i, .int .i64 0]) ∧ ∃ cur1 : List Value, NOwn i cur1 i (wtF q i f xx) ∧ Rep W.heap.size W ((gb1, .cells cur1.toArray 24) :: (M ++ ((blk, .cells (nl th).toArray 24) :: (b11, .cells (nl pl).toArray 24) :: (b9, .cells (nl iv).toArray 24) :: (gb, .cells cur.toArray 24) :: (b5, .cells (nl3 xx yy zz).toArray 41) :: (b3, .cells (gl p q g h).toArray 26) :: (X0.bl ++ Y0.bl)))) w' := fun M w hw => by
        have hpt := moved_pts hpts.out yy
        refine (weights_yes (g := g) (h := h) hp hq hm1.out (grN_nat hX (fun j _ => Nat.lt_trans (Nat.mod_lt _ (by omega)) hq) (memX M)) (⟨hpt, by rw [← hpl.out]; exact Nat.mod_lt _ (by omega)⟩ : okW q i (fun j => (f j + yy) % q) pl) (moved_E hq1 hpts.out.2.2.2 yy hE.out) hw).mono fun e w' ⟨gb1, e1, cur1, e2, e3⟩ => ⟨gb1, e1, cur1, e2.congr fun j hj => ?_, e3⟩
        rw [← hpl.out, moved_w hq1 hpts.out.2.2.2 yy xx hj]
      have w2 : ∀ (M : List (Nat × Obj)) (w : World), Rep W.heap.size W (M ++ ((blk, .cells (nl th).toArray 24) :: (b11, .cells (nl pl).toArray 24) :: (b9, .cells (nl iv).toArray 24) :: (gb, .cells cur.toArray 24) :: (b5, .cells (nl3 xx yy zz).toArray 41) :: (b3, .cells (gl p q g h).toArray 26) :: (X0.bl ++ Y0.bl))) w → Calls Try.prog 16 #[grp p q g h, .slice Y0.a i Y0.cap, num th] w fun en w' => ∃ gb1, en = .returned (.tuple #[.slice (some ⟨gb1, 0, none⟩) i i, .int .i64 0]) ∧ ∃ cur1 : List Value, NOwn i cur1 i (wtF q i f xx) ∧ Rep W.heap.size W ((gb1, .cells cur1.toArray 24) :: (M ++ ((blk, .cells (nl th).toArray 24) :: (b11, .cells (nl pl).toArray 24) :: (b9, .cells (nl iv).toArray 24) :: (gb, .cells cur.toArray 24) :: (b5, .cells (nl3 xx yy zz).toArray 41) :: (b3, .cells (gl p q g h).toArray 26) :: (X0.bl ++ Y0.bl)))) w' := fun M w hw => by
        have hpt := many_pts hpts.out hzg.out.1 hzg.out.2
        refine (weights_yes (g := g) (h := h) hp hq hm1.out (grN_nat hY (fun j _ => Nat.lt_trans (mul_lt' hq1 _ _) hq) (memY M)) (⟨hpt, by rw [← hth.out]; exact mul_lt' hq1 _ _⟩ : okW q i (fun j => mulN (f j) zz q) th) (many_E hq1 hpts.out.2.2.2 hzg.out.1 hzg.out.2 hE.out) hw).mono fun e w' ⟨gb1, e1, cur1, e2, e3⟩ => ⟨gb1, e1, cur1, e2.congr fun j hj => ?_, e3⟩
        rw [← hth.out, many_w hq1 hpts.out.2.2.2 hzg.out.1 hzg.out.2 hE.out xx hj]
      have sm : ∀ (g1 : Nat) (c1 : List Value) (L : List (Nat × Obj)) (w : World), NOwn i c1 i (wtF q i f xx) → (g1, Obj.cells c1.toArray 24) ∈ L → (gb, Obj.cells cur.toArray 24) ∈ L → Rep W.heap.size W L w → Calls Try.prog 12 #[.slice (some ⟨g1, 0, none⟩) i i, .slice (some ⟨gb, 0, none⟩) i i] w fun e w' => e = .returned (.bool true) ∧ Rep W.heap.size W L w' := fun g1 c1 L w ho1 hm hm' hw =>
        same_nums (ho1.at (B0 := W.heap.size) (w0 := W) hm (Nat.le_refl _) fun j _ => Nat.lt_trans (lwt _ _ j) hq) (ho.out.at (B0 := W.heap.size) (w0 := W) hm' (Nat.le_refl _) fun j _ => Nat.lt_trans (lwt _ _ j) hq) hm1.out true ⟨fun _ => ⟨rfl, fun _ _ => rfl⟩, fun _ => rfl⟩ hw
      clear memX memY lwt hq1 hX hY hpts hE hzg S1
      repeat (first | (obtain ⟨x, tm', e, ht'⟩ := xAr ht; clear ht; subst e; have ht := ht'; clear ht') | (obtain ⟨tm', e, ht'⟩ := xAp ht; clear ht; subst e; have ht := ht'; clear ht'))
      obtain rfl := xAu ht
      clear ht
      go_wp2_with (first | (refine' xAb hR rfl rfl rfl ?_; clear hR; intro blk w hR) | (refine' xAa hR rfl rfl inferInstance ?_; clear hR; intro blk w hR) | (refine' aFq hR rfl rfl rfl inferInstance ?_) | (refine' aGq hR rfl rfl rfl inferInstance ?_) | (refine' aHq hR rfl rfl rfl inferInstance ?_) | (refine' aIq hR rfl rfl rfl inferInstance rfl ?_; clear hR; intro w hR) | (refine' aJq hR rfl rfl rfl inferInstance rfl rfl ?_; clear hR; intro w hR) | (refine' xBk hR rfl rfl rfl inferInstance ?hm ?hn ?_; (case hm => first | with_reducible assumption | repeat (first | exact .head _ | with_reducible assumption | apply mC)); (case hn => first | rfl | simp)) | (refine' xBe hR rfl rfl rfl inferInstance ?hm ?hv ?_; (case hm => first | with_reducible assumption | repeat (first | exact .head _ | with_reducible assumption | apply mC)); (case hv => first | rfl | with_reducible assumption)) | (go_at_call 16; refine (w1 [] _ hR).mono ?_; clear hR; rintro e w ⟨gA, rfl, curA, hoA, hR⟩; replace hoA := Held.mk hoA) | (go_at_call 16; refine (w2 [_] _ hR).mono ?_; clear hR; rintro e w ⟨gD, rfl, curD, hoD, hR⟩; replace hoD := Held.mk hoD) | (go_at_call 12; refine (sm _ _ _ _ hoA.out (.tail _ (.head _)) (by repeat (first | exact .head _ | with_reducible assumption | apply mC)) hR).mono ?_; clear hR; rintro e w ⟨rfl, hR⟩) | (go_at_call 12; refine (sm _ _ _ _ hoD.out (.head _) (by repeat (first | exact .head _ | with_reducible assumption | apply mC)) hR).mono ?_; clear hR; rintro e w ⟨rfl, hR⟩))
      go_ret
      exact ⟨rfl, hR.below⟩
    have g1 : (i : Int) < (n : Int) := by omega
    have hin : i < n := by omega
    have ek : ((i + 1 : Nat) : Int) = (i : Int) + 1 := by omega
    have ei : IntKind.i64.wrap ((i : Int) + 1) = (i : Int) + 1 := by rw [IntKind.wrap_i64]; omega
    have hi1 : i + 1 ≤ n := by omega
    have hmu : n - (i + 1) < n - i := by omega
    have hbig : i ≤ 1000000 := by have := hm1.out; omega
    have hfi : f i < q := hpts.out.2.2.2 i hin
    obtain ⟨bv, ov, rfl, hyv⟩ := S1.out.at' (by omega)
    have ldf := fun (L : List (Nat × Obj)) (w : World) (hw : Rep W.heap.size W L w) => xCh (hyv w (hw.weaken (List.nil_sublist _)) i hin)
    have c1 := sadd_lit (p := p) (g := g) (h := h) (e := 0) (Nat.lt_trans hfi hq) hy hq (show (if okM (f i) yy q then (f i + yy) % q else 0) = (f i + yy) % q from if_pos ⟨h1.out, hfi, hyq.out⟩) (if_pos ⟨h1.out, hfi, hyq.out⟩)
    have c2 := smul_lit (p := p) (g := g) (h := h) (e := 0) (Nat.lt_trans hfi hq) hz hq (show (if okM (f i) zz q then mulN (f i) zz q else 0) = mulN (f i) zz q from if_pos ⟨h1.out, hfi, hzg.out.1⟩) (if_pos ⟨h1.out, hfi, hzg.out.1⟩)
    obtain ⟨s1, hs1⟩ : ∃ v, (f i + yy) % q = v := ⟨_, rfl⟩
    obtain ⟨s2, hs2⟩ : ∃ v, mulN (f i) zz q = v := ⟨_, rfl⟩
    rw [hs1] at c1
    rw [hs2] at c2
    generalize hfv : f i = fv at c1 c2 ldf hfi
    replace hi1 := Held.mk hi1
    replace hmu := Held.mk hmu
    replace ek := Held.mk ek
    replace hs1 := Held.mk hs1
    replace hs2 := Held.mk hs2
    replace hfv := Held.mk hfv
    clear hyv hi hik hfi
    repeat (first | (obtain ⟨x, tm', e, ht'⟩ := xAr ht; clear ht; subst e; have ht := ht'; clear ht') | (obtain ⟨tm', e, ht'⟩ := xAp ht; clear ht; subst e; have ht := ht'; clear ht'))
    obtain rfl := xAu ht
    clear ht
    go_wp2_with (first | (refine' xAb hR rfl rfl rfl ?_; clear hR; intro blk w hR) | (refine' xAa hR rfl rfl inferInstance ?_; clear hR; intro blk w hR) | (refine' aFq hR rfl rfl rfl inferInstance ?_) | (refine' aGq hR rfl rfl rfl inferInstance ?_) | (refine' aHq hR rfl rfl rfl inferInstance ?_) | (refine' aIq hR rfl rfl rfl inferInstance rfl ?_; clear hR; intro w hR) | (refine' aJq hR rfl rfl rfl inferInstance rfl rfl ?_; clear hR; intro w hR) | fail)
    try simp only [Act.put, kA, kB, List.setIfInBounds_toArray]
    refine cut_code (fun l tm w' => ∃ c, agree (false :: false :: false :: false :: false :: false :: false :: false :: false :: false :: false :: false :: false :: false :: false :: false :: false :: false :: false :: false :: false :: false :: false :: false :: false :: false :: false :: false :: false :: false :: false :: false :: false :: false :: false :: false :: false :: false :: false :: false :: false :: false :: false :: false :: false :: false :: false :: false :: false :: false :: false :: false :: false :: false :: false :: false :: false :: false :: false :: false :: false :: false :: false :: false :: false :: false :: false :: false :: false :: false :: false :: false :: false :: false :: false :: false :: false :: false :: false :: false :: false :: false :: false :: false :: false :: false :: false :: false :: false :: false :: false :: false :: false :: true :: true :: true :: true :: true :: true :: true :: true :: true :: true :: true :: false :: false :: false :: false :: false :: false :: false :: false :: false :: false :: false :: false :: false :: false :: false :: false :: false :: false :: false :: false :: false :: false :: false :: false :: false :: false :: false :: false :: false :: false :: false :: false :: false :: false :: false :: false :: false :: false :: false :: false :: false :: false :: false :: false :: false :: false :: false :: false :: false :: false :: false :: false :: false :: false :: false :: false :: false :: false :: false :: []) ((l.set 18 (.pointer (some ⟨c, 0, none⟩))).set 19 (.int .i64 0)) tm ∧ Rep W.heap.size W ((c, .cells (nl s1).toArray 24) :: (blk, .cells (nl th).toArray 24) :: (b11, .cells (nl pl).toArray 24) :: (b9, .cells (nl iv).toArray 24) :: (gb, .cells cur.toArray 24) :: (b5, .cells (nl3 xx yy zz).toArray 41) :: (b3, .cells (gl p q g h).toArray 26) :: (X0.bl ++ Y0.bl)) w') ?r1 ?r2
    case r1 =>
      intro Q' hQ'
      refine xBy hR 14 xCo rfl ?_
      clear hR
      refine xCi [(b5, Obj.cells (nl3 xx yy zz).toArray 41), (b3, Obj.cells (gl p q g h).toArray 26)] [1, 1, 1, 1, 1, 1, 1, 2, 2, 2, 2, 2, 2, 2] 7 rfl (by repeat (first | exact xAk | refine xAc (by repeat (first | exact .head _ | with_reducible assumption | apply mC)) ?_)) (by repeat (first | exact xAk | refine xAc (by repeat (first | exact .head _ | with_reducible assumption | apply mC)) ?_)) rfl (by decide +kernel) (fun K hK => ?_)
      repeat ((first | (refine' xCm rfl rfl rfl inferInstance ?hm ?hn ?ha ?_; (case hm => exact .tail _ (.head _)); (case hn => rfl)) | (refine' hd_loadKP rfl rfl rfl ldf ?ha ?_) | (refine xBj ?_) | (refine' xAq (by decide) rfl (.inl rfl) rfl ?ha ?_) | (refine' xAq (by decide) rfl (.inr rfl) rfl ?ha ?_) | (refine' xAm rfl rfl rfl inferInstance ?hm ?hn ?ha ?_; (case hm => first | with_reducible assumption | repeat (first | exact .head _ | with_reducible assumption | apply mC)); (case hn => first | rfl | simp)) | (refine' xAi rfl rfl rfl inferInstance ?hm ?hv ?hn ?ha ?_; (case hm => first | with_reducible assumption | repeat (first | exact .head _ | with_reducible assumption | apply mC)); (case hv => first | with_reducible assumption | (simp only [kC, kD, kE, kF]; try rfl)); (case hn => first | rfl | simp)) | (refine' xAg rfl rfl rfl inferInstance ?hm ?hv ?ha ?_; (case hm => first | with_reducible assumption | repeat (first | exact .head _ | with_reducible assumption | apply mC)); (case hv => first | rfl | with_reducible assumption)) | (refine' xAj rfl rfl rfl inferInstance ?hm ?hv ?hn ?ha ?_; (case hm => first | with_reducible assumption | repeat (first | exact .head _ | with_reducible assumption | apply mC)); (case hv => first | with_reducible assumption | (simp only [kC, kD, kE, kF]; try rfl)); (case hn => first | rfl | simp)) | (refine' xAh rfl rfl rfl inferInstance ?hm ?hv ?ha ?_; (case hm => first | with_reducible assumption | repeat (first | exact .head _ | with_reducible assumption | apply mC)); (case hv => first | rfl | with_reducible assumption)) | ((first | refine' xAe (by decide) rfl rfl rfl rfl (fun w => ?hq) ?ha ?_ | refine' xAx (by decide) rfl rfl rfl rfl (fun w => ?hq) ?ha ?_ | refine' xAn (by decide) rfl rfl rfl (fun w => ?hq) ?ha ?_ | refine' xAd (by decide) rfl rfl rfl (fun w => ?hq) ?ha ?_ | refine' xAl (by decide) rfl rfl rfl (fun w => ?hq) ?ha ?_ | refine' xAz (by decide) rfl rfl rfl rfl (fun w => ?hq) ?ha ?_ | refine' xAw (by decide) rfl rfl rfl rfl rfl rfl (fun w => ?hq) ?ha ?_ | refine' xAy (by decide) rfl rfl (fun w => ?hq) ?ha ?_ | refine' xAo (by decide) rfl rfl rfl (fun w => ?hq) ?ha ?_ | refine' xBa (by decide) rfl rfl rfl (fun w => ?hq) ?ha ?_); (case hq => go_simp; try rfl)) | (refine' xAf (by decide) rfl rfl rfl ?ha ?_) | (refine' xBh (by decide) rfl rfl rfl rfl ?ha ?_) | (refine' xBi (by decide) rfl ?ha ?_)); try (case ha => simp only [kP, kQ, kA, kB]; try rfl))
      refine xBo (hK _ _ ?_)
      clear hK K
      try simp only [Act.put, kA, kB, List.setIfInBounds_toArray]
      refine f_at [7, 11] (by decide +kernel) rfl ?_
      refine f_is 7 ?_
      refine f_y rfl rfl (xBv rfl rfl rfl (xBl Try.func14 (by kernel_rfl) (by kernel_rfl) _) (fun w hw => Calls.repQuiet hw (c1 w) rfl)) (by repeat (first | exact xAk | refine xAc (by repeat (first | exact .head _ | with_reducible assumption | apply mC)) ?_)) ?_ ?_
      · simp only [Act.put, kA, kB, List.setIfInBounds_toArray]
        (refine xCi [(b5, Obj.cells (nl3 xx yy zz).toArray 41), (b3, Obj.cells (gl p q g h).toArray 26)] [2, 2, 2, 2, 2, 2, 2, 2, 1, 1, 1, 2, 2, 2] 3 rfl (by repeat (first | exact xAk | refine xAc (by repeat (first | exact .head _ | with_reducible assumption | apply mC)) ?_)) (by repeat (first | exact xAk | refine xAc (by repeat (first | exact .head _ | with_reducible assumption | apply mC)) ?_)) rfl (by decide +kernel) (fun K hK => ?_); (repeat ((first | (refine xBj ?_) | (refine' xAq (by decide) rfl (.inl rfl) rfl ?ha ?_) | (refine' xAq (by decide) rfl (.inr rfl) rfl ?ha ?_) | (refine' xAm rfl rfl rfl inferInstance ?hm ?hn ?ha ?_; (case hm => first | with_reducible assumption | repeat (first | exact .head _ | with_reducible assumption | apply mC)); (case hn => first | rfl | simp)) | (refine' xAi rfl rfl rfl inferInstance ?hm ?hv ?hn ?ha ?_; (case hm => first | with_reducible assumption | repeat (first | exact .head _ | with_reducible assumption | apply mC)); (case hv => first | with_reducible assumption | (simp only [kC, kD, kE, kF]; try rfl)); (case hn => first | rfl | simp)) | (refine' xAg rfl rfl rfl inferInstance ?hm ?hv ?ha ?_; (case hm => first | with_reducible assumption | repeat (first | exact .head _ | with_reducible assumption | apply mC)); (case hv => first | rfl | with_reducible assumption)) | (refine' xAj rfl rfl rfl inferInstance ?hm ?hv ?hn ?ha ?_; (case hm => first | with_reducible assumption | repeat (first | exact .head _ | with_reducible assumption | apply mC)); (case hv => first | with_reducible assumption | (simp only [kC, kD, kE, kF]; try rfl)); (case hn => first | rfl | simp)) | (refine' xAh rfl rfl rfl inferInstance ?hm ?hv ?ha ?_; (case hm => first | with_reducible assumption | repeat (first | exact .head _ | with_reducible assumption | apply mC)); (case hv => first | rfl | with_reducible assumption)) | ((first | refine' xAe (by decide) rfl rfl rfl rfl (fun w => ?hq) ?ha ?_ | refine' xAx (by decide) rfl rfl rfl rfl (fun w => ?hq) ?ha ?_ | refine' xAn (by decide) rfl rfl rfl (fun w => ?hq) ?ha ?_ | refine' xAd (by decide) rfl rfl rfl (fun w => ?hq) ?ha ?_ | refine' xAl (by decide) rfl rfl rfl (fun w => ?hq) ?ha ?_ | refine' xAz (by decide) rfl rfl rfl rfl (fun w => ?hq) ?ha ?_ | refine' xAw (by decide) rfl rfl rfl rfl rfl rfl (fun w => ?hq) ?ha ?_ | refine' xAy (by decide) rfl rfl (fun w => ?hq) ?ha ?_ | refine' xAo (by decide) rfl rfl rfl (fun w => ?hq) ?ha ?_ | refine' xBa (by decide) rfl rfl rfl (fun w => ?hq) ?ha ?_); (case hq => go_simp; try rfl)) | (refine' xAf (by decide) rfl rfl rfl ?ha ?_) | (refine' xBh (by decide) rfl rfl rfl rfl ?ha ?_) | (refine' xBi (by decide) rfl ?ha ?_) | fail); try (case ha => simp only [kP, kQ, kA, kB]; try rfl))); refine xBo (hK _ _ ?_); clear hK K)
        try simp only [Act.put, kA, kB, List.setIfInBounds_toArray]
        refine f_at [11] (by decide +kernel) rfl ?_
        refine f_is 11 ?_
        refine f_new rfl rfl (xCj rfl rfl) (by repeat (first | exact xAk | refine xAc (by repeat (first | exact .head _ | with_reducible assumption | apply mC)) ?_)) (fun c => ?_) xCd
        simp only [Act.put, kA, kB, List.setIfInBounds_toArray]
        refine f_at [12] (by decide +kernel) rfl ?_
        refine f_is 12 ?_
        refine' f_s rfl rfl (xBw (l := [.int .u64 0, .int .u64 0, .int .u64 0, .int .u64 0]) rfl rfl rfl inferInstance rfl rfl rfl rfl ?hs) ?hk ?_ xCd
        (case hs => repeat (first | exact xAv.head | with_reducible assumption | apply xAv.tail))
        (case hk => repeat (first | exact xAk | refine xAc (by repeat (first | exact .head _ | with_reducible assumption | apply mC)) ?_))
        refine f_at [13] (by decide +kernel) rfl ?_
        refine f_is 13 ?_
        refine f_y rfl rfl (xBg rfl (.inl rfl) rfl) (by repeat (first | exact xAk | refine xAc (by repeat (first | exact .head _ | with_reducible assumption | apply mC)) ?_)) ?_ xCd
        simp only [Act.put, kA, kB, List.setIfInBounds_toArray]
        refine f_end (by decide +kernel) (fun w hR => ?_)
        simp only [Exit.then]
        exact hQ'.out _ _ ⟨c, xBd rfl rfl rfl, hR⟩
      · refine f_is 11 ?_
        refine f_new rfl rfl (xCj rfl rfl) (by repeat (first | exact xAk | refine xAc (by repeat (first | exact .head _ | with_reducible assumption | apply mC)) ?_)) (fun c => ?_) xCd
        simp only [Act.put, kA, kB, List.setIfInBounds_toArray]
        refine f_at [7] (by decide +kernel) rfl ?_
        refine f_is 7 ?_
        refine f_y rfl rfl (xBv rfl rfl rfl (xBl Try.func14 (by kernel_rfl) (by kernel_rfl) _) (fun w hw => Calls.repQuiet hw (c1 w) rfl)) (by repeat (first | exact xAk | refine xAc (by repeat (first | exact .head _ | with_reducible assumption | apply mC)) ?_)) ?_ xCd
        simp only [Act.put, kA, kB, List.setIfInBounds_toArray]
        (refine xCi [(b5, Obj.cells (nl3 xx yy zz).toArray 41), (b3, Obj.cells (gl p q g h).toArray 26)] [2, 2, 2, 2, 2, 2, 2, 2, 1, 1, 1, 2, 2, 2] 2 rfl (by repeat (first | exact xAk | refine xAc (by repeat (first | exact .head _ | with_reducible assumption | apply mC)) ?_)) (by repeat (first | exact xAk | refine xAc (by repeat (first | exact .head _ | with_reducible assumption | apply mC)) ?_)) rfl (by decide +kernel) (fun K hK => ?_); (repeat ((first | (refine xBj ?_) | (refine' xAq (by decide) rfl (.inl rfl) rfl ?ha ?_) | (refine' xAq (by decide) rfl (.inr rfl) rfl ?ha ?_) | (refine' xAm rfl rfl rfl inferInstance ?hm ?hn ?ha ?_; (case hm => first | with_reducible assumption | repeat (first | exact .head _ | with_reducible assumption | apply mC)); (case hn => first | rfl | simp)) | (refine' xAi rfl rfl rfl inferInstance ?hm ?hv ?hn ?ha ?_; (case hm => first | with_reducible assumption | repeat (first | exact .head _ | with_reducible assumption | apply mC)); (case hv => first | with_reducible assumption | (simp only [kC, kD, kE, kF]; try rfl)); (case hn => first | rfl | simp)) | (refine' xAg rfl rfl rfl inferInstance ?hm ?hv ?ha ?_; (case hm => first | with_reducible assumption | repeat (first | exact .head _ | with_reducible assumption | apply mC)); (case hv => first | rfl | with_reducible assumption)) | (refine' xAj rfl rfl rfl inferInstance ?hm ?hv ?hn ?ha ?_; (case hm => first | with_reducible assumption | repeat (first | exact .head _ | with_reducible assumption | apply mC)); (case hv => first | with_reducible assumption | (simp only [kC, kD, kE, kF]; try rfl)); (case hn => first | rfl | simp)) | (refine' xAh rfl rfl rfl inferInstance ?hm ?hv ?ha ?_; (case hm => first | with_reducible assumption | repeat (first | exact .head _ | with_reducible assumption | apply mC)); (case hv => first | rfl | with_reducible assumption)) | ((first | refine' xAe (by decide) rfl rfl rfl rfl (fun w => ?hq) ?ha ?_ | refine' xAx (by decide) rfl rfl rfl rfl (fun w => ?hq) ?ha ?_ | refine' xAn (by decide) rfl rfl rfl (fun w => ?hq) ?ha ?_ | refine' xAd (by decide) rfl rfl rfl (fun w => ?hq) ?ha ?_ | refine' xAl (by decide) rfl rfl rfl (fun w => ?hq) ?ha ?_ | refine' xAz (by decide) rfl rfl rfl rfl (fun w => ?hq) ?ha ?_ | refine' xAw (by decide) rfl rfl rfl rfl rfl rfl (fun w => ?hq) ?ha ?_ | refine' xAy (by decide) rfl rfl (fun w => ?hq) ?ha ?_ | refine' xAo (by decide) rfl rfl rfl (fun w => ?hq) ?ha ?_ | refine' xBa (by decide) rfl rfl rfl (fun w => ?hq) ?ha ?_); (case hq => go_simp; try rfl)) | (refine' xAf (by decide) rfl rfl rfl ?ha ?_) | (refine' xBh (by decide) rfl rfl rfl rfl ?ha ?_) | (refine' xBi (by decide) rfl ?ha ?_) | fail); try (case ha => simp only [kP, kQ, kA, kB]; try rfl))); refine xBo (hK _ _ ?_); clear hK K)
        try simp only [Act.put, kA, kB, List.setIfInBounds_toArray]
        refine f_at [12] (by decide +kernel) rfl ?_
        refine f_is 12 ?_
        refine' f_s rfl rfl (xBw (l := [.int .u64 0, .int .u64 0, .int .u64 0, .int .u64 0]) rfl rfl rfl inferInstance rfl rfl rfl rfl ?hs) ?hk ?_ xCd
        (case hs => repeat (first | exact xAv.head | with_reducible assumption | apply xAv.tail))
        (case hk => repeat (first | exact xAk | refine xAc (by repeat (first | exact .head _ | with_reducible assumption | apply mC)) ?_))
        refine f_at [13] (by decide +kernel) rfl ?_
        refine f_is 13 ?_
        refine f_y rfl rfl (xBg rfl (.inl rfl) rfl) (by repeat (first | exact xAk | refine xAc (by repeat (first | exact .head _ | with_reducible assumption | apply mC)) ?_)) ?_ xCd
        simp only [Act.put, kA, kB, List.setIfInBounds_toArray]
        refine f_end (by decide +kernel) (fun w hR => ?_)
        simp only [Exit.then]
        exact hQ'.out _ _ ⟨c, xBd rfl rfl rfl, hR⟩
    case r2 =>
      clear hR
      rename_i K5 k5
      rintro tm w ⟨c, ht, hR⟩
      repeat (first | (obtain ⟨x, tm', e, ht'⟩ := xAr ht; clear ht; subst e; have ht := ht'; clear ht') | (obtain ⟨tm', e, ht'⟩ := xAp ht; clear ht; subst e; have ht := ht'; clear ht'))
      obtain rfl := xAu ht
      clear ht
      simp only [Exit.then]
      refine k5 _ _ ?_
      clear c1
      go_wp2_with (first | (refine' xAb hR rfl rfl rfl ?_; clear hR; intro blk w hR) | (refine' xAa hR rfl rfl inferInstance ?_; clear hR; intro blk w hR) | (refine' aFq hR rfl rfl rfl inferInstance ?_) | (refine' aGq hR rfl rfl rfl inferInstance ?_) | (refine' aHq hR rfl rfl rfl inferInstance ?_) | (refine' aIq hR rfl rfl rfl inferInstance rfl ?_; clear hR; intro w hR) | (refine' aJq hR rfl rfl rfl inferInstance rfl rfl ?_; clear hR; intro w hR) | fail)
      try simp only [Act.put, kA, kB, List.setIfInBounds_toArray]
      refine cut_code (fun l tm w' => ∃ d, agree (false :: false :: false :: false :: false :: false :: false :: false :: false :: false :: false :: false :: false :: false :: false :: false :: false :: false :: false :: false :: false :: false :: false :: false :: false :: false :: false :: false :: false :: false :: false :: false :: false :: false :: false :: false :: false :: false :: false :: false :: false :: false :: false :: false :: false :: false :: false :: false :: false :: false :: false :: false :: false :: false :: false :: false :: false :: false :: false :: false :: false :: false :: false :: false :: false :: false :: false :: false :: false :: false :: false :: false :: false :: false :: false :: false :: false :: false :: false :: false :: false :: false :: false :: false :: false :: false :: false :: false :: false :: false :: false :: false :: false :: false :: false :: false :: false :: false :: false :: false :: false :: false :: false :: false :: true :: true :: true :: true :: true :: true :: true :: true :: true :: true :: true :: false :: false :: false :: false :: false :: false :: false :: false :: false :: false :: false :: false :: false :: false :: false :: false :: false :: false :: false :: false :: false :: false :: false :: false :: false :: false :: false :: false :: false :: false :: false :: false :: false :: false :: false :: false :: false :: false :: false :: false :: false :: false :: false :: false :: false :: false :: false :: false :: []) ((l.set 20 (.pointer (some ⟨d, 0, none⟩))).set 21 (.int .i64 0)) tm ∧ Rep W.heap.size W ((d, .cells (nl s2).toArray 24) :: (c, .cells (nl s1).toArray 24) :: (blk, .cells (nl th).toArray 24) :: (b11, .cells (nl pl).toArray 24) :: (b9, .cells (nl iv).toArray 24) :: (gb, .cells cur.toArray 24) :: (b5, .cells (nl3 xx yy zz).toArray 41) :: (b3, .cells (gl p q g h).toArray 26) :: (X0.bl ++ Y0.bl)) w') ?r3 ?r4
      case r3 =>
        intro Q' hQ'
        refine xBy hR 14 xCo rfl ?_
        clear hR
        refine xCi [(b5, Obj.cells (nl3 xx yy zz).toArray 41), (b3, Obj.cells (gl p q g h).toArray 26)] [1, 1, 1, 1, 1, 1, 1, 2, 2, 2, 2, 2, 2, 2] 7 rfl (by repeat (first | exact xAk | refine xAc (by repeat (first | exact .head _ | with_reducible assumption | apply mC)) ?_)) (by repeat (first | exact xAk | refine xAc (by repeat (first | exact .head _ | with_reducible assumption | apply mC)) ?_)) rfl (by decide +kernel) (fun K hK => ?_)
        repeat ((first | (refine' xCm rfl rfl rfl inferInstance ?hm ?hn ?ha ?_; (case hm => exact .tail _ (.head _)); (case hn => rfl)) | (refine' hd_loadKP rfl rfl rfl ldf ?ha ?_) | (refine xBj ?_) | (refine' xAq (by decide) rfl (.inl rfl) rfl ?ha ?_) | (refine' xAq (by decide) rfl (.inr rfl) rfl ?ha ?_) | (refine' xAm rfl rfl rfl inferInstance ?hm ?hn ?ha ?_; (case hm => first | with_reducible assumption | repeat (first | exact .head _ | with_reducible assumption | apply mC)); (case hn => first | rfl | simp)) | (refine' xAi rfl rfl rfl inferInstance ?hm ?hv ?hn ?ha ?_; (case hm => first | with_reducible assumption | repeat (first | exact .head _ | with_reducible assumption | apply mC)); (case hv => first | with_reducible assumption | (simp only [kC, kD, kE, kF]; try rfl)); (case hn => first | rfl | simp)) | (refine' xAg rfl rfl rfl inferInstance ?hm ?hv ?ha ?_; (case hm => first | with_reducible assumption | repeat (first | exact .head _ | with_reducible assumption | apply mC)); (case hv => first | rfl | with_reducible assumption)) | (refine' xAj rfl rfl rfl inferInstance ?hm ?hv ?hn ?ha ?_; (case hm => first | with_reducible assumption | repeat (first | exact .head _ | with_reducible assumption | apply mC)); (case hv => first | with_reducible assumption | (simp only [kC, kD, kE, kF]; try rfl)); (case hn => first | rfl | simp)) | (refine' xAh rfl rfl rfl inferInstance ?hm ?hv ?ha ?_; (case hm => first | with_reducible assumption | repeat (first | exact .head _ | with_reducible assumption | apply mC)); (case hv => first | rfl | with_reducible assumption)) | ((first | refine' xAe (by decide) rfl rfl rfl rfl (fun w => ?hq) ?ha ?_ | refine' xAx (by decide) rfl rfl rfl rfl (fun w => ?hq) ?ha ?_ | refine' xAn (by decide) rfl rfl rfl (fun w => ?hq) ?ha ?_ | refine' xAd (by decide) rfl rfl rfl (fun w => ?hq) ?ha ?_ | refine' xAl (by decide) rfl rfl rfl (fun w => ?hq) ?ha ?_ | refine' xAz (by decide) rfl rfl rfl rfl (fun w => ?hq) ?ha ?_ | refine' xAw (by decide) rfl rfl rfl rfl rfl rfl (fun w => ?hq) ?ha ?_ | refine' xAy (by decide) rfl rfl (fun w => ?hq) ?ha ?_ | refine' xAo (by decide) rfl rfl rfl (fun w => ?hq) ?ha ?_ | refine' xBa (by decide) rfl rfl rfl (fun w => ?hq) ?ha ?_); (case hq => go_simp; try rfl)) | (refine' xAf (by decide) rfl rfl rfl ?ha ?_) | (refine' xBh (by decide) rfl rfl rfl rfl ?ha ?_) | (refine' xBi (by decide) rfl ?ha ?_)); try (case ha => simp only [kP, kQ, kA, kB]; try rfl))
        refine xBo (hK _ _ ?_)
        clear hK K
        try simp only [Act.put, kA, kB, List.setIfInBounds_toArray]
        refine f_at [7, 11] (by decide +kernel) rfl ?_
        refine f_is 7 ?_
        refine f_y rfl rfl (xBv rfl rfl rfl (xBl Try.func15 (by kernel_rfl) (by kernel_rfl) _) (fun w hw => Calls.repQuiet hw (c2 w) rfl)) (by repeat (first | exact xAk | refine xAc (by repeat (first | exact .head _ | with_reducible assumption | apply mC)) ?_)) ?_ ?_
        · simp only [Act.put, kA, kB, List.setIfInBounds_toArray]
          (refine xCi [(b5, Obj.cells (nl3 xx yy zz).toArray 41), (b3, Obj.cells (gl p q g h).toArray 26)] [2, 2, 2, 2, 2, 2, 2, 2, 1, 1, 1, 2, 2, 2] 3 rfl (by repeat (first | exact xAk | refine xAc (by repeat (first | exact .head _ | with_reducible assumption | apply mC)) ?_)) (by repeat (first | exact xAk | refine xAc (by repeat (first | exact .head _ | with_reducible assumption | apply mC)) ?_)) rfl (by decide +kernel) (fun K hK => ?_); (repeat ((first | (refine xBj ?_) | (refine' xAq (by decide) rfl (.inl rfl) rfl ?ha ?_) | (refine' xAq (by decide) rfl (.inr rfl) rfl ?ha ?_) | (refine' xAm rfl rfl rfl inferInstance ?hm ?hn ?ha ?_; (case hm => first | with_reducible assumption | repeat (first | exact .head _ | with_reducible assumption | apply mC)); (case hn => first | rfl | simp)) | (refine' xAi rfl rfl rfl inferInstance ?hm ?hv ?hn ?ha ?_; (case hm => first | with_reducible assumption | repeat (first | exact .head _ | with_reducible assumption | apply mC)); (case hv => first | with_reducible assumption | (simp only [kC, kD, kE, kF]; try rfl)); (case hn => first | rfl | simp)) | (refine' xAg rfl rfl rfl inferInstance ?hm ?hv ?ha ?_; (case hm => first | with_reducible assumption | repeat (first | exact .head _ | with_reducible assumption | apply mC)); (case hv => first | rfl | with_reducible assumption)) | (refine' xAj rfl rfl rfl inferInstance ?hm ?hv ?hn ?ha ?_; (case hm => first | with_reducible assumption | repeat (first | exact .head _ | with_reducible assumption | apply mC)); (case hv => first | with_reducible assumption | (simp only [kC, kD, kE, kF]; try rfl)); (case hn => first | rfl | simp)) | (refine' xAh rfl rfl rfl inferInstance ?hm ?hv ?ha ?_; (case hm => first | with_reducible assumption | repeat (first | exact .head _ | with_reducible assumption | apply mC)); (case hv => first | rfl | with_reducible assumption)) | ((first | refine' xAe (by decide) rfl rfl rfl rfl (fun w => ?hq) ?ha ?_ | refine' xAx (by decide) rfl rfl rfl rfl (fun w => ?hq) ?ha ?_ | refine' xAn (by decide) rfl rfl rfl (fun w => ?hq) ?ha ?_ | refine' xAd (by decide) rfl rfl rfl (fun w => ?hq) ?ha ?_ | refine' xAl (by decide) rfl rfl rfl (fun w => ?hq) ?ha ?_ | refine' xAz (by decide) rfl rfl rfl rfl (fun w => ?hq) ?ha ?_ | refine' xAw (by decide) rfl rfl rfl rfl rfl rfl (fun w => ?hq) ?ha ?_ | refine' xAy (by decide) rfl rfl (fun w => ?hq) ?ha ?_ | refine' xAo (by decide) rfl rfl rfl (fun w => ?hq) ?ha ?_ | refine' xBa (by decide) rfl rfl rfl (fun w => ?hq) ?ha ?_); (case hq => go_simp; try rfl)) | (refine' xAf (by decide) rfl rfl rfl ?ha ?_) | (refine' xBh (by decide) rfl rfl rfl rfl ?ha ?_) | (refine' xBi (by decide) rfl ?ha ?_) | fail); try (case ha => simp only [kP, kQ, kA, kB]; try rfl))); refine xBo (hK _ _ ?_); clear hK K)
          try simp only [Act.put, kA, kB, List.setIfInBounds_toArray]
          refine f_at [11] (by decide +kernel) rfl ?_
          refine f_is 11 ?_
          refine f_new rfl rfl (xCj rfl rfl) (by repeat (first | exact xAk | refine xAc (by repeat (first | exact .head _ | with_reducible assumption | apply mC)) ?_)) (fun c => ?_) xCd
          simp only [Act.put, kA, kB, List.setIfInBounds_toArray]
          refine f_at [12] (by decide +kernel) rfl ?_
          refine f_is 12 ?_
          refine' f_s rfl rfl (xBw (l := [.int .u64 0, .int .u64 0, .int .u64 0, .int .u64 0]) rfl rfl rfl inferInstance rfl rfl rfl rfl ?hs) ?hk ?_ xCd
          (case hs => repeat (first | exact xAv.head | with_reducible assumption | apply xAv.tail))
          (case hk => repeat (first | exact xAk | refine xAc (by repeat (first | exact .head _ | with_reducible assumption | apply mC)) ?_))
          refine f_at [13] (by decide +kernel) rfl ?_
          refine f_is 13 ?_
          refine f_y rfl rfl (xBg rfl (.inl rfl) rfl) (by repeat (first | exact xAk | refine xAc (by repeat (first | exact .head _ | with_reducible assumption | apply mC)) ?_)) ?_ xCd
          simp only [Act.put, kA, kB, List.setIfInBounds_toArray]
          refine f_end (by decide +kernel) (fun w hR => ?_)
          simp only [Exit.then]
          exact hQ'.out _ _ ⟨c, xBd rfl rfl rfl, hR⟩
        · refine f_is 11 ?_
          refine f_new rfl rfl (xCj rfl rfl) (by repeat (first | exact xAk | refine xAc (by repeat (first | exact .head _ | with_reducible assumption | apply mC)) ?_)) (fun c => ?_) xCd
          simp only [Act.put, kA, kB, List.setIfInBounds_toArray]
          refine f_at [7] (by decide +kernel) rfl ?_
          refine f_is 7 ?_
          refine f_y rfl rfl (xBv rfl rfl rfl (xBl Try.func15 (by kernel_rfl) (by kernel_rfl) _) (fun w hw => Calls.repQuiet hw (c2 w) rfl)) (by repeat (first | exact xAk | refine xAc (by repeat (first | exact .head _ | with_reducible assumption | apply mC)) ?_)) ?_ xCd
          simp only [Act.put, kA, kB, List.setIfInBounds_toArray]
          (refine xCi [(b5, Obj.cells (nl3 xx yy zz).toArray 41), (b3, Obj.cells (gl p q g h).toArray 26)] [2, 2, 2, 2, 2, 2, 2, 2, 1, 1, 1, 2, 2, 2] 2 rfl (by repeat (first | exact xAk | refine xAc (by repeat (first | exact .head _ | with_reducible assumption | apply mC)) ?_)) (by repeat (first | exact xAk | refine xAc (by repeat (first | exact .head _ | with_reducible assumption | apply mC)) ?_)) rfl (by decide +kernel) (fun K hK => ?_); (repeat ((first | (refine xBj ?_) | (refine' xAq (by decide) rfl (.inl rfl) rfl ?ha ?_) | (refine' xAq (by decide) rfl (.inr rfl) rfl ?ha ?_) | (refine' xAm rfl rfl rfl inferInstance ?hm ?hn ?ha ?_; (case hm => first | with_reducible assumption | repeat (first | exact .head _ | with_reducible assumption | apply mC)); (case hn => first | rfl | simp)) | (refine' xAi rfl rfl rfl inferInstance ?hm ?hv ?hn ?ha ?_; (case hm => first | with_reducible assumption | repeat (first | exact .head _ | with_reducible assumption | apply mC)); (case hv => first | with_reducible assumption | (simp only [kC, kD, kE, kF]; try rfl)); (case hn => first | rfl | simp)) | (refine' xAg rfl rfl rfl inferInstance ?hm ?hv ?ha ?_; (case hm => first | with_reducible assumption | repeat (first | exact .head _ | with_reducible assumption | apply mC)); (case hv => first | rfl | with_reducible assumption)) | (refine' xAj rfl rfl rfl inferInstance ?hm ?hv ?hn ?ha ?_; (case hm => first | with_reducible assumption | repeat (first | exact .head _ | with_reducible assumption | apply mC)); (case hv => first | with_reducible assumption | (simp only [kC, kD, kE, kF]; try rfl)); (case hn => first | rfl | simp)) | (refine' xAh rfl rfl rfl inferInstance ?hm ?hv ?ha ?_; (case hm => first | with_reducible assumption | repeat (first | exact .head _ | with_reducible assumption | apply mC)); (case hv => first | rfl | with_reducible assumption)) | ((first | refine' xAe (by decide) rfl rfl rfl rfl (fun w => ?hq) ?ha ?_ | refine' xAx (by decide) rfl rfl rfl rfl (fun w => ?hq) ?ha ?_ | refine' xAn (by decide) rfl rfl rfl (fun w => ?hq) ?ha ?_ | refine' xAd (by decide) rfl rfl rfl (fun w => ?hq) ?ha ?_ | refine' xAl (by decide) rfl rfl rfl (fun w => ?hq) ?ha ?_ | refine' xAz (by decide) rfl rfl rfl rfl (fun w => ?hq) ?ha ?_ | refine' xAw (by decide) rfl rfl rfl rfl rfl rfl (fun w => ?hq) ?ha ?_ | refine' xAy (by decide) rfl rfl (fun w => ?hq) ?ha ?_ | refine' xAo (by decide) rfl rfl rfl (fun w => ?hq) ?ha ?_ | refine' xBa (by decide) rfl rfl rfl (fun w => ?hq) ?ha ?_); (case hq => go_simp; try rfl)) | (refine' xAf (by decide) rfl rfl rfl ?ha ?_) | (refine' xBh (by decide) rfl rfl rfl rfl ?ha ?_) | (refine' xBi (by decide) rfl ?ha ?_) | fail); try (case ha => simp only [kP, kQ, kA, kB]; try rfl))); refine xBo (hK _ _ ?_); clear hK K)
          try simp only [Act.put, kA, kB, List.setIfInBounds_toArray]
          refine f_at [12] (by decide +kernel) rfl ?_
          refine f_is 12 ?_
          refine' f_s rfl rfl (xBw (l := [.int .u64 0, .int .u64 0, .int .u64 0, .int .u64 0]) rfl rfl rfl inferInstance rfl rfl rfl rfl ?hs) ?hk ?_ xCd
          (case hs => repeat (first | exact xAv.head | with_reducible assumption | apply xAv.tail))
          (case hk => repeat (first | exact xAk | refine xAc (by repeat (first | exact .head _ | with_reducible assumption | apply mC)) ?_))
          refine f_at [13] (by decide +kernel) rfl ?_
          refine f_is 13 ?_
          refine f_y rfl rfl (xBg rfl (.inl rfl) rfl) (by repeat (first | exact xAk | refine xAc (by repeat (first | exact .head _ | with_reducible assumption | apply mC)) ?_)) ?_ xCd
          simp only [Act.put, kA, kB, List.setIfInBounds_toArray]
          refine f_end (by decide +kernel) (fun w hR => ?_)
          simp only [Exit.then]
          exact hQ'.out _ _ ⟨c, xBd rfl rfl rfl, hR⟩
      case r4 =>
        clear hR
        rename_i K6 k6
        rintro tm w ⟨d, ht, hR⟩
        repeat (first | (obtain ⟨x, tm', e, ht'⟩ := xAr ht; clear ht; subst e; have ht := ht'; clear ht') | (obtain ⟨tm', e, ht'⟩ := xAp ht; clear ht; subst e; have ht := ht'; clear ht'))
        obtain rfl := xAu ht
        clear ht
        simp only [Exit.then]
        refine k6 _ _ ?_
        clear c2 ldf
        go_wp2_with (first | (refine' xAb hR rfl rfl rfl ?_; clear hR; intro blk w hR) | (refine' xAa hR rfl rfl inferInstance ?_; clear hR; intro blk w hR) | (refine' aFq hR rfl rfl rfl inferInstance ?_) | (refine' aGq hR rfl rfl rfl inferInstance ?_) | (refine' aHq hR rfl rfl rfl inferInstance ?_) | (refine' aIq hR rfl rfl rfl inferInstance rfl ?_; clear hR; intro w hR) | (refine' aJq hR rfl rfl rfl inferInstance rfl rfl ?_; clear hR; intro w hR) | (refine' wpList_new hR (isNew_nums1 rfl rfl rfl) ?_; clear hR; intro bt w hR) | (refine' xCn (L' := fun l => (d, .cells (nl s2).toArray 24) :: (c, .cells (nl s1).toArray 24) :: (blk, .cells (nl th).toArray 24) :: (b11, .cells (nl pl).toArray 24) :: (b9, .cells (nl iv).toArray 24) :: (gb, .cells cur.toArray 24) :: (b5, .cells (nl3 xx yy zz).toArray 41) :: (b3, .cells (gl p q g h).toArray 26) :: (l ++ Y0.bl)) hR (fun l => List.perm_append_comm_assoc [_, _, _, _, _, _, _, _] l _) rfl rfl rfl rfl hX hs1.out hbig ?_; clear hR hX; intro X1 w hX hR) | (refine' xCn (L' := fun l => (d, .cells (nl s2).toArray 24) :: (c, .cells (nl s1).toArray 24) :: (blk, .cells (nl th).toArray 24) :: (b11, .cells (nl pl).toArray 24) :: (b9, .cells (nl iv).toArray 24) :: (gb, .cells cur.toArray 24) :: (b5, .cells (nl3 xx yy zz).toArray 41) :: (b3, .cells (gl p q g h).toArray 26) :: (X1.bl ++ l)) hR (fun l => List.perm_append_comm (l₁ := _ :: _ :: _ :: _ :: _ :: _ :: _ :: _ :: GrN.bl _)) rfl rfl rfl rfl hY hs2.out hbig ?_; clear hR hY; intro Y1 w hY hR))
        refine hK.out (i + 1, X1, Y1) _ _ ⟨hi1.out, hX, hY⟩ hmu.out (by simp only [ek.out]; exact xBd rfl rfl rfl) ?_
        exact hR.drop1.drop1
end Go.Proofs.Ytgfoeongjhkdmaa
