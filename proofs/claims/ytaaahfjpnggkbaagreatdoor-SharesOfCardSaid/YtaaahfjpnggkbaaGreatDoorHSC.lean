import Derived.Test.YtaaahfjpnggkbaaGreatDoorHSB
import Derived.Test.YtaaahfjpnggkbaaGreatDoorHShSide
import Derived.Test.YtaaahfjpnggkbaaGreatDoorHR
import Derived.Test.YtaaahfjpnggkbaaGreatDoorHI
import Derived.Test.YtaaahfjpnggkbaaGreatDoorHRC
import Derived.Test.YtaaahfjpnggkbaaGreatDoorHRef09
set_option linter.unusedSimpArgs false
set_option linter.unusedVariables false
set_option maxRecDepth 100000
set_option maxHeartbeats 20000000
namespace Go.Proofs.YtaaahfjpnggkbaaGreatDoor
open Go.RowKit
section
attribute [local irreducible] Calls Instr.build Instr.buildSlice Instr.makeSlice
instance zeroNumsR : xKf Tryz.prog 27 [.slice none 0 0] := ⟨.slice none 0 0, by kernel_rfl, rfl⟩
def raBad (n m : Nat) (k : Int) : Prop := k < 1 ∨ 3 < k ∨ n = 0 ∨ m ≠ n
noncomputable def raE (n m : Nat) (E1 : Int) (E2 : Nat → Int) (k : Int) : Int := by classical exact if raBad n m k then 1 else if E1 = 0 then errF E2 k.toNat else E1
noncomputable def raK (n m : Nat) (E1 : Int) (E2 : Nat → Int) (k : Int) : Nat := by classical exact if raBad n m k then 0 else if E1 = 0 then (if errF E2 k.toNat = 0 then k.toNat else 0) else 0
theorem raK_bad {n m : Nat} {E1 : Int} {E2 : Nat → Int} {k : Int} (h : raBad n m k) : raK n m E1 E2 k = 0 := by unfold raK; rw [if_pos h]
theorem raE_one {n m : Nat} {E1 : Int} {E2 : Nat → Int} {k : Int} (h : ¬ raBad n m k) (h1 : E1 ≠ 0) : raE n m E1 E2 k = E1 := by unfold raE; rw [if_neg h, if_neg h1]
theorem raK_one {n m : Nat} {E1 : Int} {E2 : Nat → Int} {k : Int} (h : ¬ raBad n m k) (h1 : E1 ≠ 0) : raK n m E1 E2 k = 0 := by unfold raK; rw [if_neg h, if_neg h1]
theorem raE_two {n m : Nat} {E1 : Int} {E2 : Nat → Int} {k : Int} (h : ¬ raBad n m k) (h1 : E1 = 0) : raE n m E1 E2 k = errF E2 k.toNat := by unfold raE; rw [if_neg h, if_pos h1]
theorem raK_two {n m : Nat} {E1 : Int} {E2 : Nat → Int} {k : Int} (h : ¬ raBad n m k) (h1 : E1 = 0) : raK n m E1 E2 k = (if errF E2 k.toNat = 0 then k.toNat else 0) := by unfold raK; rw [if_neg h, if_pos h1]
section
variable {p q g h : Nat} {B0 : Nat} {w0 w : World} {L : List (Nat × Obj)} {n m ca cq : Nat} {aa pa : Option Addr} {A : Nat → Int} {Pw : Nat → Nat}
theorem sOf_ltB (hq : q < B) (v : Int) : sOf q v < B := by
 by_cases h1 : 1 < q
 ·exact Nat.lt_trans (sOf_lt h1 v) hq
 ·rw [xJw, if_pos (by omega)]
  exact xEy
theorem sub3 {α : Type} {x y z : α} {l : List α} : l.Sublist (x :: y :: z :: l) := ((List.sublist_cons_self _ _).trans (List.sublist_cons_self _ _)).trans (List.sublist_cons_self _ _)
theorem raise_bad (hn : n ≤ 1000) (hm : m ≤ 1000) {k : Int} (hbad : raBad n m k) (hR : Rep B0 w0 L w) :
  Calls Tryz.prog 25 #[grp p q g h, .slice aa n ca, .slice pa m cq, .int .i64 k] w fun e w' => e = .returned (.tuple #[.slice none 0 0, .int .i64 1]) ∧ Rep B0 w0 L w' := by
 by_cases k1 : k < 1
 ·have d1 : decide (k < 1) = true := decide_eq_true k1
  clear hbad
  go_enter Tryz.func25, Tryz.ntmps25
  go_wp2_with (first | go_skip | (refine' aAq hR ?_; clear hR; intro blk w hR))
  go_ret2
  exact ⟨rfl, hR.weaken sub3⟩
 ·have d1 : decide (k < 1) = false := decide_eq_false k1
  by_cases k2 : 3 < k
  ·have d2 : decide (3 < k) = true := decide_eq_true k2
   clear hbad
   go_enter Tryz.func25, Tryz.ntmps25
   go_wp2_with (first | go_skip | (refine' aAq hR ?_; clear hR; intro blk w hR))
   go_ret2
   exact ⟨rfl, hR.weaken sub3⟩
  ·have d2 : decide (3 < k) = false := decide_eq_false k2
   by_cases k3 : n = 0
   ·subst k3
    clear hbad
    go_enter Tryz.func25, Tryz.ntmps25
    go_wp2_with (first | go_skip | (refine' aAq hR ?_; clear hR; intro blk w hR) | (refine' aZq hR ?_))
    go_ret2
    exact ⟨rfl, hR.weaken sub3⟩
   ·have k4 : m ≠ n := ((hbad.resolve_left k1).resolve_left k2).resolve_left k3
    have d3 : ((n : Int) == 0) = false := by simp; omega
    have e3 : ¬ (n : Int) = 0 := by omega
    have d4 : ((m : Int) == (n : Int)) = false := by simp; omega
    have d5 : ((m : Int) != (n : Int)) = true := by simp; omega
    have e4 : ¬ (m : Int) = (n : Int) := by omega
    clear hbad
    go_enter Tryz.func25, Tryz.ntmps25
    go_wp2_with (first | (refine' aAq hR ?_; clear hR; intro blk w hR) | (refine' aZq hR ?_))
    go_ret2
    exact ⟨rfl, hR.weaken sub3⟩
theorem raise_go (hp : p < B) (hq : q < B) (hn : n ≤ 1000) (hA : IAt B0 w0 L aa n ca A) (hP : NAt B0 w0 L pa n cq Pw) {k : Nat} (hno : ¬ raBad n n (k : Int)) {V2 : Nat → Nat} {E2 : Nat → Int}
  (h2 : errF (shE1 p A Pw) n = 0 → ∀ s : Nat, s < 3 → ∀ {L' : List (Nat × Obj)} {w : World} {c1 c2 c3 cx : Nat} {xa : Option Addr}, NAt B0 w0 L' xa n cx (shV1 q A) → NAt B0 w0 L' pa n cq Pw → (c1, Obj.cells (gl p q g h).toArray 26) ∈ L' → (c2, Obj.cells [Value.slice xa n cx].toArray 27) ∈ L' → (c3, Obj.cells [Value.slice pa n cq].toArray 27) ∈ L' → Rep B0 w0 L' w →
   Calls Tryz.prog 120 #[.int .i64 (s : Int), .pointer (some ⟨c1, 0, none⟩), .pointer (some ⟨c2, 0, none⟩), .pointer (some ⟨c3, 0, none⟩)] w fun e w' => e = .returned (.tuple #[num (V2 s), .int .i64 (E2 s)]) ∧ Rep B0 w0 L' w') (hR : Rep B0 w0 L w) :
  Calls Tryz.prog 25 #[grp p q g h, .slice aa n ca, .slice pa n cq, .int .i64 (k : Int)] w fun e w' => ∃ X : GrN, e = .returned (.tuple #[.slice X.a (raK n n (errF (shE1 p A Pw) n) E2 k) X.cap, .int .i64 (raE n n (errF (shE1 p A Pw) n) E2 k)]) ∧ xCc X (raK n n (errF (shE1 p A Pw) n) E2 k) V2 ∧ Rep B0 w0 (X.bl ++ L) w' := by
 have k1 : ¬ (k : Int) < 1 := fun h => hno (.inl h)
 have k2 : ¬ 3 < (k : Int) := fun h => hno (.inr (.inl h))
 have k3 : n ≠ 0 := fun h => hno (.inr (.inr (.inl h)))
 have d1 : decide ((k : Int) < 1) = false := decide_eq_false k1
 have d2 : decide (3 < (k : Int)) = false := decide_eq_false k2
 have d3 : ((n : Int) == 0) = false := by simp; omega
 have e3 : ¬ (n : Int) = 0 := by omega
 have hmf : ∀ (fn : Fn) (first cap : Array Value) (w : World), (Instr.makeFunc fn first cap).run Tryz.prog w = .ok (.func fn first cap) w := fun _ _ _ _ => rfl
 have cM1 := fun (b4 b5 b6 : Nat) (w : World) (hw : Rep B0 w0 ((b6, .cells [Value.slice pa n cq].toArray 27) :: (b5, .cells [Value.slice aa n ca].toArray 67) :: (b4, .cells (gl p q g h).toArray 26) :: L) w) =>
  made_R1 (n := n) (p1 := b5) (p2 := b4) (p3 := b6) (V := shV1 q A) (E := shE1 p A Pw) hn (fun i hi M w hw => raise1_any hp hq hi hn (hA.mono fun w hw => hw.weaken (sub3.trans (List.sublist_append_right M _))) (hP.mono fun w hw => hw.weaken (sub3.trans (List.sublist_append_right M _))) (List.mem_append_right _ (.tail _ (.head _))) (List.mem_append_right _ (.tail _ (.tail _ (.head _)))) (List.mem_append_right _ (.head _)) hw) hw
 by_cases hE : errF (shE1 p A Pw) n = 0
 ·rw [raE_two hno hE, raK_two hno hE, Int.toNat_natCast]
  have cM1' := fun (b4 b5 b6 : Nat) (w : World) (hw : Rep B0 w0 ((b6, .cells [Value.slice pa n cq].toArray 27) :: (b5, .cells [Value.slice aa n ca].toArray 67) :: (b4, .cells (gl p q g h).toArray 26) :: L) w) => (cM1 b4 b5 b6 w hw).mono fun e w' hh => hh.elim (fun h => h.2) (fun h => absurd hE h.1)
  have rlt : ∀ j, j < n → shV1 q A j < B := fun j _ => by
   by_cases hb : shBad A j
   ·rw [shV1_bad hb]; exact xEy
   ·rw [xHp hb]; exact sOf_ltB hq _
  have cM2 := fun (b4 b5 b6 b10 : Nat) (X : GrN) (hX : xCc X n (shV1 q A)) (w : World) (hw : Rep B0 w0 ((b10, .cells [Value.slice X.a n X.cap].toArray 27) :: (X.bl ++ ((b6, .cells [Value.slice pa n cq].toArray 27) :: (b5, .cells [Value.slice aa n ca].toArray 67) :: (b4, .cells (gl p q g h).toArray 26) :: L))) w) =>
   made_R2 (n := k) (p1 := b4) (p2 := b10) (p3 := b6) (V := V2) (E := E2) (by omega) (fun i hi M w hw => h2 hE i (by omega) (xEj hX rlt fun x hx => List.mem_append_right _ (.tail _ (List.mem_append_left _ hx))) (hP.mono fun w hw => hw.weaken ((sub3.trans (List.sublist_append_right X.bl _)).trans ((List.sublist_cons_self _ _).trans (List.sublist_append_right M _)))) (List.mem_append_right _ (.tail _ (List.mem_append_right _ (.tail _ (.tail _ (.head _)))))) (List.mem_append_right _ (.head _)) (List.mem_append_right _ (.tail _ (List.mem_append_right _ (.head _)))) hw) hw
  by_cases hE2 : errF E2 k = 0
  ·rw [if_pos hE2, hE2]
   have cM2' := fun (b4 b5 b6 b10 : Nat) (X : GrN) (hX : xCc X n (shV1 q A)) (w : World) (hw : Rep B0 w0 ((b10, .cells [Value.slice X.a n X.cap].toArray 27) :: (X.bl ++ ((b6, .cells [Value.slice pa n cq].toArray 27) :: (b5, .cells [Value.slice aa n ca].toArray 67) :: (b4, .cells (gl p q g h).toArray 26) :: L))) w) => (cM2 b4 b5 b6 b10 X hX w hw).mono fun e w' hh => hh.elim (fun h => h.2) (fun h => absurd hE2 h.1)
   clear cM1 cM2 h2 hA hP hno hE hE2 k1 k2 k3 rlt
   go_enter Tryz.func25, Tryz.ntmps25
   go_wp2_with (first | (refine' aAq hR ?_; clear hR; intro blk w hR) | (refine' aBq hR ?_; clear hR; intro blk w hR) | (refine' aMq hR ?_) | (refine' aUq hR ?_; clear hR; intro w hR) | (refine' aZq hR ?_) | (go_at_call 117; first | (refine (cM1' _ _ _ _ hR).mono ?_; clear hR; rintro e w ⟨X1, rfl, hX1, hR⟩) | (refine (cM2' _ _ _ _ _ hX1 _ hR).mono ?_; clear hR; rintro e w ⟨X2, rfl, hX2, hR⟩)))
   go_ret2
   exact ⟨X2, rfl, hX2, hR.weaken (List.Sublist.append (List.Sublist.refl _) ((sub3.trans (List.sublist_append_right X1.bl _)).trans (List.sublist_cons_self _ _)))⟩
  ·rw [if_neg hE2]
   have cM2' := fun (b4 b5 b6 b10 : Nat) (X : GrN) (hX : xCc X n (shV1 q A)) (w : World) (hw : Rep B0 w0 ((b10, .cells [Value.slice X.a n X.cap].toArray 27) :: (X.bl ++ ((b6, .cells [Value.slice pa n cq].toArray 27) :: (b5, .cells [Value.slice aa n ca].toArray 67) :: (b4, .cells (gl p q g h).toArray 26) :: L))) w) => (cM2 b4 b5 b6 b10 X hX w hw).mono fun e w' hh => hh.elim (fun h => absurd h.1 hE2) (fun h => h.2)
   clear cM1 cM2 h2 hA hP hno hE hE2 k1 k2 k3 rlt
   generalize errF E2 k = ke at *
   go_enter Tryz.func25, Tryz.ntmps25
   go_wp2_with (first | (refine' aAq hR ?_; clear hR; intro blk w hR) | (refine' aBq hR ?_; clear hR; intro blk w hR) | (refine' aMq hR ?_) | (refine' aUq hR ?_; clear hR; intro w hR) | (refine' aZq hR ?_) | (go_at_call 117; first | (refine (cM1' _ _ _ _ hR).mono ?_; clear hR; rintro e w ⟨X1, rfl, hX1, hR⟩) | (refine (cM2' _ _ _ _ _ hX1 _ hR).mono ?_; clear hR; rintro e w ⟨rfl, hR⟩)))
   go_ret2
   exact ⟨⟨none, 0, []⟩, rfl, xBj _, hR.weaken ((sub3.trans (List.sublist_append_right X1.bl _)).trans (List.sublist_cons_self _ _))⟩
 ·rw [raE_one hno hE, raK_one hno hE]
  have cM1' := fun (b4 b5 b6 : Nat) (w : World) (hw : Rep B0 w0 ((b6, .cells [Value.slice pa n cq].toArray 27) :: (b5, .cells [Value.slice aa n ca].toArray 67) :: (b4, .cells (gl p q g h).toArray 26) :: L) w) => (cM1 b4 b5 b6 w hw).mono fun e w' hh => hh.elim (fun h => absurd h.1 hE) (fun h => h.2)
  clear cM1 h2 hA hP hno k1 k2 k3
  generalize errF (shE1 p A Pw) n = ke at *
  have c1 : (ke == 0) = false := by simp; exact hE
  have c2 : (ke != 0) = true := by simp; exact hE
  go_enter Tryz.func25, Tryz.ntmps25
  go_wp2_with (first | (refine' aAq hR ?_; clear hR; intro blk w hR) | (refine' aBq hR ?_; clear hR; intro blk w hR) | (refine' aMq hR ?_) | (refine' aUq hR ?_; clear hR; intro w hR) | (refine' aZq hR ?_) | (go_at_call 117; refine (cM1' _ _ _ _ hR).mono ?_; clear hR; rintro e w ⟨rfl, hR⟩))
  go_ret2
  exact ⟨⟨none, 0, []⟩, rfl, xBj _, (hR.weaken ((sub3 (l := L)).trans (List.sublist_cons_self _ _)) : Rep _ _ L _)⟩
end
end
section
attribute [local irreducible] Calls Instr.build Instr.buildSlice Instr.makeSlice
noncomputable def shK (most : Int) (E : Nat → Int) (k : Int) : Nat := if k < 1 ∨ most < k then 0 else if errF E k.toNat = 0 then k.toNat else 0
noncomputable def shE (most : Int) (E : Nat → Int) (k : Int) : Int := if k < 1 ∨ most < k then 1 else errF E k.toNat
section
variable {p q g h : Nat} {B0 : Nat} {w0 w : World} {L : List (Nat × Obj)} {n cp : Nat} {a : Option Addr}
theorem sdval_N (hq : q < B) {k : Int} {V : Nat → Nat} {E : Nat → Int} (hV : ∀ i : Nat, i < 7 → ∀ (M : List (Nat × Obj)) (w : World), Rep B0 w0 (M ++ L) w → Calls Tryz.prog 8 #[grp p q g h, .slice a n cp, num (sOf q ((i : Int) + 1))] w fun e w' => e = .returned (.tuple #[num (V i), .int .i64 (E i)]) ∧ Rep B0 w0 (M ++ L) w') (hR : Rep B0 w0 L w) :
  Calls Tryz.prog 115 #[.agg sdN.toArray, grp p q g h, .slice a n cp, .int .i64 k] w fun e w' => ∃ X : GrN, e = .returned (.tuple #[.slice X.a (shK 7 E k) X.cap, .int .i64 (shE 7 E k)]) ∧ xCc X (shK 7 E k) V ∧ Rep B0 w0 (X.bl ++ L) w' := by
 by_cases hno : k < 1 ∨ 7 < k
 ·unfold shK shE
  rw [if_pos hno, if_pos hno]
  exact (sdbad_N hno hR).mono fun e w' ⟨h1, h2⟩ => ⟨⟨none, 0, []⟩, h1, xBj _, h2⟩
 ·unfold shK shE
  rw [if_neg hno, if_neg hno]
  obtain ⟨m, rfl⟩ : ∃ m : Nat, k = (m : Int) := ⟨k.toNat, by omega⟩
  rw [Int.toNat_natCast]
  refine (sdvals_N (m := m) hq (by omega) (by omega) hV hR).mono fun e w' hh => ?_
  rcases hh with ⟨hE, X, h1, hX, h2⟩ | ⟨hE, h1, h2⟩
  ·rw [if_pos hE, hE]
   exact ⟨X, h1, hX, h2⟩
  ·rw [if_neg hE]
   exact ⟨⟨none, 0, []⟩, h1, xBj _, h2⟩
theorem shOf_any (hq : q < B) {k : Int} {V : Nat → Nat} {E : Nat → Int} (hV : ∀ i : Nat, i < 7 → ∀ (M : List (Nat × Obj)) (w : World), Rep B0 w0 (M ++ L) w → Calls Tryz.prog 8 #[grp p q g h, .slice a n cp, num (sOf q ((i : Int) + 1))] w fun e w' => e = .returned (.tuple #[num (V i), .int .i64 (E i)]) ∧ Rep B0 w0 (M ++ L) w') (hR : Rep B0 w0 L w) :
  Calls Tryz.prog 23 #[grp p q g h, .slice a n cp, .int .i64 k] w fun e w' => ∃ X : GrN, e = .returned (.tuple #[.slice X.a (shK 7 E k) X.cap, .int .i64 (shE 7 E k)]) ∧ xCc X (shK 7 E k) V ∧ Rep B0 w0 (X.bl ++ L) w' := by
 have cV := fun (b : Nat) (w : World) (hw : Rep B0 w0 ((b, .cells (gl p q g h).toArray 26) :: L) w) => sdval_N (p := p) (g := g) (h := h) (k := k) hq (L := (b, .cells (gl p q g h).toArray 26) :: L) (fun i hi M w hw => by
  have e : M ++ ((b, Obj.cells (gl p q g h).toArray 26) :: L) = (M ++ [(b, Obj.cells (gl p q g h).toArray 26)]) ++ L := by simp
  rw [e] at hw ⊢
  exact hV i hi _ w hw) hw
 generalize shK 7 E k = kk at *
 generalize shE 7 E k = ke at *
 clear hV
 go_enter Tryz.func23, Tryz.ntmps23
 go_wp2_with (refine' aAq hR ?_; clear hR; intro blk w hR)
 rename_i K5 k5
 try simp only [Act.put, kA, kB, List.setIfInBounds_toArray]
 refine xBl hR 9 xBd rfl ?_
 clear hR
 refine xCo [(blk, Obj.cells (gl p q g h).toArray 26)] [1, 1, 1, 1, 2, 2, 2, 2, 2] 5 rfl (by repeat (exact xAu)) (by repeat (first | exact xAu | refine xAx (by repeat (first | exact .head _ | with_reducible assumption | apply mC)) ?_)) rfl (by decide +kernel) (fun K hK => ?_)
 repeat ((first | (refine' xBu rfl rfl rfl inferInstance ?hm ?hn ?ha ?_; (case hm => exact .head _); (case hn => rfl)) | (refine xAp ?_) | (refine' xAj (by decide) rfl (.inl rfl) rfl ?ha ?_) | (refine' xBk rfl rfl rfl (xAi Tryz.func114 (by kernel_rfl) (by kernel_rfl) _) (fun w => nodes_any w) ?ha ?_)); try (case ha => simp only [kP, kQ, kA, kB]; try rfl))
 refine xAo (hK _ _ ?_)
 clear hK K
 try simp only [Act.put, kA, kB, List.setIfInBounds_toArray]
 refine f_at [4] (by decide +kernel) rfl ?_
 refine f_is 4 ?_
 refine f_call (fun v M => ∃ X : GrN, v = .tuple #[.slice X.a kk X.cap, .int .i64 ke] ∧ xCc X kk V ∧ M = (blk, .cells (gl p q g h).toArray 26) :: (X.bl ++ L)) rfl rfl rfl rfl rfl (xAi Tryz.func115 (by kernel_rfl) (by kernel_rfl) _) (fun w hw => (cV _ w hw).mono fun e w' ⟨X, h1, h2, h3⟩ => ⟨_, h1, _, ⟨X, rfl, h2, rfl⟩, h3.permN List.perm_middle⟩) ?_ xCl
 rintro v M ⟨X, rfl, hX, rfl⟩
 refine ⟨(by repeat (first | exact xAu | refine xAx (by repeat (first | exact .head _ | with_reducible assumption | apply mC | apply List.mem_append_left)) ?_)), ?_⟩
 simp only [Act.put, kA, kB, List.setIfInBounds_toArray]
 refine xCo [(blk, Obj.cells (gl p q g h).toArray 26)] [2, 2, 2, 2, 2, 1, 1, 2, 2] 2 rfl (by repeat (first | exact xAu | refine xAx (by repeat (first | exact .head _ | with_reducible assumption | apply mC)) ?_)) (by repeat (first | exact xAu | refine xAx (by repeat (first | exact .head _ | with_reducible assumption | apply mC)) ?_)) rfl (by decide +kernel) (fun K hK => ?_)
 repeat ((first | (refine xAp ?_) | ((refine' xAt (by decide) rfl rfl rfl (fun w => ?hq) ?ha ?_); (case hq => go_simp; try rfl))); try (case ha => simp only [kP, kQ, kA, kB]; try rfl))
 refine xAo (hK _ _ ?_)
 clear hK K
 try simp only [Act.put, kA, kB, List.setIfInBounds_toArray]
 refine f_at [7] (by decide +kernel) rfl ?_
 refine f_is 7 ?_
 refine f_y rfl rfl (xAy rfl (.inl rfl) rfl) (by repeat (first | exact xAu | refine xAx (by repeat (first | exact .head _ | with_reducible assumption | apply mC | apply List.mem_append_left)) ?_)) ?_ xCl
 simp only [Act.put, kA, kB, List.setIfInBounds_toArray]
 refine f_at [8] (by decide +kernel) rfl ?_
 refine f_is 8 ?_
 refine f_y rfl rfl (xAy rfl (.inl rfl) rfl) (by repeat (first | exact xAu | refine xAx (by repeat (first | exact .head _ | with_reducible assumption | apply mC | apply List.mem_append_left)) ?_)) ?_ xCl
 simp only [Act.put, kA, kB, List.setIfInBounds_toArray]
 refine f_end (by decide +kernel) (fun w hR => ?_)
 simp only [Exit.then, Exit.inBlock]
 refine k5 _ _ ?_
 go_wp2_with (fail)
 go_ret2
 exact ⟨X, rfl, hX, hR.weaken (List.sublist_cons_self _ _)⟩
theorem sdval_S (hq : q < B) {k : Int} {V : Nat → Nat} {E : Nat → Int} (hV : ∀ i : Nat, i < 3 → ∀ (M : List (Nat × Obj)) (w : World), Rep B0 w0 (M ++ L) w → Calls Tryz.prog 8 #[grp p q g h, .slice a n cp, num (sOf q (-(i : Int) - 1))] w fun e w' => e = .returned (.tuple #[num (V i), .int .i64 (E i)]) ∧ Rep B0 w0 (M ++ L) w') (hR : Rep B0 w0 L w) :
  Calls Tryz.prog 115 #[.agg sdS.toArray, grp p q g h, .slice a n cp, .int .i64 k] w fun e w' => ∃ X : GrN, e = .returned (.tuple #[.slice X.a (shK 3 E k) X.cap, .int .i64 (shE 3 E k)]) ∧ xCc X (shK 3 E k) V ∧ Rep B0 w0 (X.bl ++ L) w' := by
 by_cases hno : k < 1 ∨ 3 < k
 ·unfold shK shE
  rw [if_pos hno, if_pos hno]
  exact (sdbad_S hno hR).mono fun e w' ⟨h1, h2⟩ => ⟨⟨none, 0, []⟩, h1, xBj _, h2⟩
 ·unfold shK shE
  rw [if_neg hno, if_neg hno]
  obtain ⟨m, rfl⟩ : ∃ m : Nat, k = (m : Int) := ⟨k.toNat, by omega⟩
  rw [Int.toNat_natCast]
  refine (sdvals_S (m := m) hq (by omega) (by omega) hV hR).mono fun e w' hh => ?_
  rcases hh with ⟨hE, X, h1, hX, h2⟩ | ⟨hE, h1, h2⟩
  ·rw [if_pos hE, hE]
   exact ⟨X, h1, hX, h2⟩
  ·rw [if_neg hE]
   exact ⟨⟨none, 0, []⟩, h1, xBj _, h2⟩
theorem shSec_any (hq : q < B) {k : Int} {V : Nat → Nat} {E : Nat → Int} (hV : ∀ i : Nat, i < 3 → ∀ (M : List (Nat × Obj)) (w : World), Rep B0 w0 (M ++ L) w → Calls Tryz.prog 8 #[grp p q g h, .slice a n cp, num (sOf q (-(i : Int) - 1))] w fun e w' => e = .returned (.tuple #[num (V i), .int .i64 (E i)]) ∧ Rep B0 w0 (M ++ L) w') (hR : Rep B0 w0 L w) :
  Calls Tryz.prog 24 #[grp p q g h, .slice a n cp, .int .i64 k] w fun e w' => ∃ X : GrN, e = .returned (.tuple #[.slice X.a (shK 3 E k) X.cap, .int .i64 (shE 3 E k)]) ∧ xCc X (shK 3 E k) V ∧ Rep B0 w0 (X.bl ++ L) w' := by
 have cV := fun (b : Nat) (w : World) (hw : Rep B0 w0 ((b, .cells (gl p q g h).toArray 26) :: L) w) => sdval_S (p := p) (g := g) (h := h) (k := k) hq (L := (b, .cells (gl p q g h).toArray 26) :: L) (fun i hi M w hw => by
  have e : M ++ ((b, Obj.cells (gl p q g h).toArray 26) :: L) = (M ++ [(b, Obj.cells (gl p q g h).toArray 26)]) ++ L := by simp
  rw [e] at hw ⊢
  exact hV i hi _ w hw) hw
 generalize shK 3 E k = kk at *
 generalize shE 3 E k = ke at *
 clear hV
 go_enter Tryz.func24, Tryz.ntmps24
 go_wp2_with (refine' aAq hR ?_; clear hR; intro blk w hR)
 rename_i K5 k5
 try simp only [Act.put, kA, kB, List.setIfInBounds_toArray]
 refine xBl hR 9 xBd rfl ?_
 clear hR
 refine xCo [(blk, Obj.cells (gl p q g h).toArray 26)] [1, 1, 1, 1, 2, 2, 2, 2, 2] 5 rfl (by repeat (exact xAu)) (by repeat (first | exact xAu | refine xAx (by repeat (first | exact .head _ | with_reducible assumption | apply mC)) ?_)) rfl (by decide +kernel) (fun K hK => ?_)
 repeat ((first | (refine' xBu rfl rfl rfl inferInstance ?hm ?hn ?ha ?_; (case hm => exact .head _); (case hn => rfl)) | (refine xAp ?_) | (refine' xAj (by decide) rfl (.inl rfl) rfl ?ha ?_) | (refine' xBk rfl rfl rfl (xAi Tryz.func116 (by kernel_rfl) (by kernel_rfl) _) (fun w => xGt w) ?ha ?_)); try (case ha => simp only [kP, kQ, kA, kB]; try rfl))
 refine xAo (hK _ _ ?_)
 clear hK K
 try simp only [Act.put, kA, kB, List.setIfInBounds_toArray]
 refine f_at [4] (by decide +kernel) rfl ?_
 refine f_is 4 ?_
 refine f_call (fun v M => ∃ X : GrN, v = .tuple #[.slice X.a kk X.cap, .int .i64 ke] ∧ xCc X kk V ∧ M = (blk, .cells (gl p q g h).toArray 26) :: (X.bl ++ L)) rfl rfl rfl rfl rfl (xAi Tryz.func115 (by kernel_rfl) (by kernel_rfl) _) (fun w hw => (cV _ w hw).mono fun e w' ⟨X, h1, h2, h3⟩ => ⟨_, h1, _, ⟨X, rfl, h2, rfl⟩, h3.permN List.perm_middle⟩) ?_ xCl
 rintro v M ⟨X, rfl, hX, rfl⟩
 refine ⟨(by repeat (first | exact xAu | refine xAx (by repeat (first | exact .head _ | with_reducible assumption | apply mC | apply List.mem_append_left)) ?_)), ?_⟩
 simp only [Act.put, kA, kB, List.setIfInBounds_toArray]
 refine xCo [(blk, Obj.cells (gl p q g h).toArray 26)] [2, 2, 2, 2, 2, 1, 1, 2, 2] 2 rfl (by repeat (first | exact xAu | refine xAx (by repeat (first | exact .head _ | with_reducible assumption | apply mC)) ?_)) (by repeat (first | exact xAu | refine xAx (by repeat (first | exact .head _ | with_reducible assumption | apply mC)) ?_)) rfl (by decide +kernel) (fun K hK => ?_)
 repeat ((first | (refine xAp ?_) | ((refine' xAt (by decide) rfl rfl rfl (fun w => ?hq) ?ha ?_); (case hq => go_simp; try rfl))); try (case ha => simp only [kP, kQ, kA, kB]; try rfl))
 refine xAo (hK _ _ ?_)
 clear hK K
 try simp only [Act.put, kA, kB, List.setIfInBounds_toArray]
 refine f_at [7] (by decide +kernel) rfl ?_
 refine f_is 7 ?_
 refine f_y rfl rfl (xAy rfl (.inl rfl) rfl) (by repeat (first | exact xAu | refine xAx (by repeat (first | exact .head _ | with_reducible assumption | apply mC | apply List.mem_append_left)) ?_)) ?_ xCl
 simp only [Act.put, kA, kB, List.setIfInBounds_toArray]
 refine f_at [8] (by decide +kernel) rfl ?_
 refine f_is 8 ?_
 refine f_y rfl rfl (xAy rfl (.inl rfl) rfl) (by repeat (first | exact xAu | refine xAx (by repeat (first | exact .head _ | with_reducible assumption | apply mC | apply List.mem_append_left)) ?_)) ?_ xCl
 simp only [Act.put, kA, kB, List.setIfInBounds_toArray]
 refine f_end (by decide +kernel) (fun w hR => ?_)
 simp only [Exit.then, Exit.inBlock]
 refine k5 _ _ ?_
 go_wp2_with (fail)
 go_ret2
 exact ⟨X, rfl, hX, hR.weaken (List.sublist_cons_self _ _)⟩
end
end
section
attribute [local irreducible] Calls Instr.build Instr.buildSlice Instr.makeSlice
section
variable {p q g h : Nat} {B0 : Nat} {w0 w : World} {L : List (Nat × Obj)} {n cp : Nat} {a : Option Addr} {f : Nat → Nat}
theorem perm_two {α : Type} (x y : α) (l L : List α) : (x :: y :: (l ++ L)).Perm (l ++ (x :: y :: L)) := (List.perm_middle.symm.cons x).trans List.perm_middle.symm
theorem rvals_any (hq : q < B) {k : Nat} (hk : k ≤ 1000) {sg : Int} {y : Nat → Int} {V : Nat → Nat} {E : Nat → Int} (hy : ∀ i : Nat, i < k → IntKind.i64.wrap (sg * ((i : Int) + 1)) = y i ∧ -1000000 ≤ y i ∧ y i ≤ 1000000)
  (hV : ∀ i : Nat, i < k → ∀ {L : List (Nat × Obj)} {w : World} {a : Option Addr} {cp : Nat}, NAt B0 w0 L a n cp f → Rep B0 w0 L w → Calls Tryz.prog 11 #[grp p q g h, .slice a n cp, num (sOf q (y i))] w fun e w' => e = .returned (.tuple #[num (V i), .int .i64 (E i)]) ∧ Rep B0 w0 L w')
  (hA : NAt B0 w0 [] a n cp f) (hR : Rep B0 w0 L w) :
  Calls Tryz.prog 121 #[grp p q g h, .slice a n cp, .int .i64 (k : Int), .int .i64 sg] w fun e w' =>
   (errF E k = 0 ∧ ∃ x : GrN, e = .returned (.tuple #[.slice x.a k x.cap, .int .i64 0]) ∧ xCc x k V ∧ Rep B0 w0 (x.bl ++ L) w') ∨ (errF E k ≠ 0 ∧ e = .returned (.tuple #[.slice none 0 0, .int .i64 (errF E k)]) ∧ Rep B0 w0 L w') := by
 replace hV := Held.mk (show ∀ i : Nat, i < k → ∀ (L : List (Nat × Obj)) (w : World), Rep B0 w0 L w → Calls Tryz.prog 11 #[grp p q g h, .slice a n cp, num (sOf q (y i))] w fun e w' => e = .returned (.tuple #[num (V i), .int .i64 (E i)]) ∧ Rep B0 w0 L w' from fun i hi L w hw => hV i hi hA.any hw)
 replace hy := Held.mk hy
 clear hA
 go_enter Tryz.func121, Tryz.ntmps121
 go_wp2_with (refine' aAq hR ?_; clear hR; intro blk w hR)
 try simp only [Act.put, kA, kB, List.setIfInBounds_toArray]
 refine' xAv (false :: false :: false :: false :: false :: false :: false :: false :: false :: false :: false :: false :: true :: true :: true :: true :: true :: true :: true :: true :: true :: true :: true :: true :: true :: true :: true :: true :: true :: true :: true :: true :: true :: true :: true :: true :: true :: false :: []) (fun (x : Nat × GrN) l => (l.set 10 (.slice x.2.a x.1 x.2.cap)).set 11 (.int .i64 ((x.1 : Int) + 1))) (fun x => (blk, .cells (gl p q g h).toArray 26) :: (x.2.bl ++ L)) (fun x => k - x.1) (fun x => x.1 ≤ k ∧ xCc x.2 x.1 V ∧ ∀ j, j < x.1 → E j = 0) (0, ⟨none, 0, []⟩) ?h0 ?hO ?hR ?hs
 case h0 => exact xAf rfl rfl rfl
 case hO => exact ⟨Nat.zero_le _, xBj _, fun j hj => absurd hj (Nat.not_lt_zero _)⟩
 case hR => exact hR
 case hs =>
  clear hR
  intro x tm w hO ht hR K hK
  obtain ⟨i, X⟩ := x
  obtain ⟨hi, hx, hz⟩ := hO
  simp only at hi hx hz ht hR
  by_cases hik : i = k
  ·rw [hik] at hx hz ht
   have t1 : ¬ (k : Int) + 1 ≤ (k : Int) := by omega
   have hE0 := xEr hz
   replace hE0 := Held.mk hE0
   replace hx := Held.mk hx
   clear hK hz hik hi hV hy i
   repeat (first | (obtain ⟨x, tm', e, ht'⟩ := xAc ht; clear ht; subst e; have ht := ht'; clear ht') | (obtain ⟨tm', e, ht'⟩ := xAa ht; clear ht; subst e; have ht := ht'; clear ht'))
   obtain rfl := xAe ht
   clear ht
   go_wp2_with (fail)
   go_ret2
   exact .inl ⟨hE0.out, X, rfl, hx.out, hR.weaken (List.sublist_cons_self _ _)⟩
  ·have hin : i < k := by omega
   have t1 : (i : Int) + 1 ≤ (k : Int) := by omega
   obtain ⟨y1, y2, y3⟩ := hy.out i hin
   obtain ⟨v, hv⟩ : ∃ v, V i = v := ⟨_, rfl⟩
   obtain ⟨s, hs⟩ : ∃ v, sOf q (y i) = v := ⟨_, rfl⟩
   have cS := fun w : World => (xIr p q g h (y i) hq (by omega) (by omega) w)
   have cA := fun (L : List (Nat × Obj)) (w : World) (hw : Rep B0 w0 L w) => hV.out i hin L w hw
   rw [hs] at cA
   simp only [hs] at cS
   rw [hv] at cA
   obtain ⟨ei, hei⟩ : ∃ e, E i = e := ⟨_, rfl⟩
   rw [hei] at cA
   have he0 : ei ≠ 0 → errF E k = ei := fun h => by rw [← hei]; exact xJt hin hz (by rw [hei]; exact h)
   have hz1 : ei = 0 → ∀ j, j < i + 1 → E j = 0 := fun h j hj => if h2 : j = i then by rw [h2, hei, h] else hz j (by omega)
   have e1 : IntKind.i64.wrap ((i : Int) + 1 + 1) = (i : Int) + 1 + 1 := by rw [IntKind.wrap_i64]; omega
   have ek : ((i + 1 : Nat) : Int) = (i : Int) + 1 := by omega
   have hbig : i ≤ 1000000 := by omega
   have hi1 : i + 1 ≤ k := by omega
   have hmu : k - (i + 1) < k - i := by omega
   replace ek := Held.mk ek
   replace hi1 := Held.mk hi1
   replace hmu := Held.mk hmu
   replace hz1 := Held.mk hz1
   replace hv := Held.mk hv
   replace he0 := Held.mk he0
   generalize y i = yi at *
   clear hV hy hz hi hik y2 y3 hs hei
   repeat (first | (obtain ⟨x, tm', e, ht'⟩ := xAc ht; clear ht; subst e; have ht := ht'; clear ht') | (obtain ⟨tm', e, ht'⟩ := xAa ht; clear ht; subst e; have ht := ht'; clear ht'))
   obtain rfl := xAe ht
   clear ht
   go_wp2_with (fail)
   rename_i K5 k5
   try simp only [Act.put, kA, kB, List.setIfInBounds_toArray]
   refine xBl hR 14 xBd rfl ?_
   clear hR
   refine xCo [(blk, Obj.cells (gl p q g h).toArray 26)] [1, 1, 1, 1, 1, 1, 1, 1, 1, 1, 1, 2, 2, 2] 3 rfl (by repeat (exact xAu)) (by repeat (first | exact xAu | refine xAx (by repeat (first | exact .head _ | with_reducible assumption | apply mC)) ?_)) rfl (by decide +kernel) (fun K hK => ?_)
   repeat ((first | (refine' xBu rfl rfl rfl inferInstance ?hm ?hn ?ha ?_; (case hm => exact .head _); (case hn => rfl)) | (refine xAp ?_) | (refine' xAj (by decide) rfl (.inl rfl) rfl ?ha ?_) | ((first | refine' xAm (by decide) rfl rfl rfl rfl (fun w => ?hq) ?ha ?_ | refine' xAt (by decide) rfl rfl rfl (fun w => ?hq) ?ha ?_); (case hq => go_simp; try rfl)) | (refine' xBk rfl rfl rfl (xAi Tryz.func42 (by kernel_rfl) (by kernel_rfl) _) (fun w => cS w) ?ha ?_) | (refine' hd_callK rfl rfl rfl (xAi Tryz.func11 (by kernel_rfl) (by kernel_rfl) _) (fun L' w hL hw => cA L' w hw) ?ha ?_)); try (case ha => simp only [kP, kQ, kA, kB]; try rfl))
   refine xAo (hK _ _ ?_)
   clear hK K
   try simp only [Act.put, kA, kB, List.setIfInBounds_toArray]
   refine f_at [11] (by decide +kernel) rfl ?_
   refine f_is 11 ?_
   refine f_new rfl rfl (xIp rfl rfl) (fun p hp => by rw [List.mem_singleton.1 hp]; exact .head _) (fun c' => ?_) xCl
   simp only [Act.put, kA, kB, List.setIfInBounds_toArray]
   refine f_at [12] (by decide +kernel) rfl ?_
   refine f_is 12 ?_
   refine' f_s rfl rfl (xEh (l := [.int .u64 0, .int .u64 0, .int .u64 0, .int .u64 0]) rfl rfl rfl inferInstance rfl rfl rfl rfl ?hs) ?hk ?_ xCl
   (case hs => repeat (first | exact xBq.head | with_reducible assumption | apply xBq.tail))
   (case hk => exact (fun p hp => .tail _ (by rw [List.mem_singleton.1 hp]; exact .head _)))
   refine f_at [13] (by decide +kernel) rfl ?_
   refine f_is 13 ?_
   refine f_y rfl rfl (xAy rfl (.inl rfl) rfl) (fun p hp => .tail _ (by rw [List.mem_singleton.1 hp]; exact .head _)) ?_ xCl
   simp only [Act.put, kA, kB, List.setIfInBounds_toArray]
   refine f_end (by decide +kernel) (fun w hR => ?_)
   simp only [Exit.then, Exit.inBlock]
   refine k5 _ _ ?_
   clear k5 K5 cA cS
   by_cases hE : ei = 0
   ·subst hE
    have hz2 := hz1.out rfl
    replace hz2 := Held.mk hz2
    go_wp2_with (first | (refine' aNq hR ?_) | (refine' xBz hR (xBv rfl rfl rfl) ?_; clear hR; intro bt w hR) | (refine' xBp (L' := fun l => (c', .cells (nl v).toArray 24) :: (blk, .cells (gl p q g h).toArray 26) :: (l ++ L)) hR (fun l => perm_two _ _ _ _) rfl rfl rfl rfl hx hv.out hbig ?_; clear hR hx; intro x' w hx hR))
    exact hK.out (i + 1, x') _ _ ⟨hi1.out, hx, hz2.out⟩ hmu.out (by simp only [ek.out]; exact xAf rfl rfl rfl) (hR.weaken (List.sublist_cons_self _ _))
   ·have c1 : (ei == 0) = false := by simp; exact hE
    have c2 : (ei != 0) = true := by simp; exact hE
    have he1 := he0.out hE
    replace he1 := Held.mk he1
    clear hK hx
    go_wp2_with (fail)
    go_ret2
    exact .inr ⟨by rw [he1.out]; exact hE, by rw [he1.out]; rfl, hR.weaken ((List.sublist_append_right _ _).trans ((List.sublist_cons_self _ _).trans (List.sublist_cons_self _ _)))⟩
theorem rshOf_any (hq : q < B) {k : Int} {V : Nat → Nat} {E : Nat → Int}
  (hV : ∀ i : Nat, i < 7 → ∀ {L : List (Nat × Obj)} {w : World} {a : Option Addr} {cp : Nat}, NAt B0 w0 L a n cp f → Rep B0 w0 L w → Calls Tryz.prog 11 #[grp p q g h, .slice a n cp, num (sOf q ((i : Int) + 1))] w fun e w' => e = .returned (.tuple #[num (V i), .int .i64 (E i)]) ∧ Rep B0 w0 L w')
  (hA : NAt B0 w0 [] a n cp f) (hR : Rep B0 w0 L w) :
  Calls Tryz.prog 26 #[grp p q g h, .slice a n cp, .int .i64 k] w fun e w' => ∃ X : GrN, e = .returned (.tuple #[.slice X.a (shK 7 E k) X.cap, .int .i64 (shE 7 E k)]) ∧ xCc X (shK 7 E k) V ∧ Rep B0 w0 (X.bl ++ L) w' := by
 by_cases k1 : k < 1
 ·have d1 : decide (k < 1) = true := decide_eq_true k1
  have e1 : shK 7 E k = 0 := by unfold shK; rw [if_pos (.inl k1)]
  have e2 : shE 7 E k = 1 := by unfold shE; rw [if_pos (.inl k1)]
  rw [e1, e2]
  clear hV hA e1 e2
  go_enter Tryz.func26, Tryz.ntmps26
  go_wp2_with (refine' aAq hR ?_; clear hR; intro blk w hR)
  go_ret2
  exact ⟨⟨none, 0, []⟩, rfl, xBj _, hR.weaken (List.sublist_cons_self _ _)⟩
 ·have d1 : decide (k < 1) = false := decide_eq_false k1
  by_cases k2 : 7 < k
  ·have d2 : decide (7 < k) = true := decide_eq_true k2
   have e1 : shK 7 E k = 0 := by unfold shK; rw [if_pos (.inr k2)]
   have e2 : shE 7 E k = 1 := by unfold shE; rw [if_pos (.inr k2)]
   rw [e1, e2]
   clear hV hA e1 e2
   go_enter Tryz.func26, Tryz.ntmps26
   go_wp2_with (refine' aAq hR ?_; clear hR; intro blk w hR)
   go_ret2
   exact ⟨⟨none, 0, []⟩, rfl, xBj _, hR.weaken (List.sublist_cons_self _ _)⟩
  ·have d2 : decide (7 < k) = false := decide_eq_false k2
   obtain ⟨m, rfl⟩ : ∃ m : Nat, k = (m : Int) := ⟨k.toNat, by omega⟩
   have hno : ¬ ((m : Int) < 1 ∨ 7 < (m : Int)) := fun h => h.elim k1 k2
   have e1 : shK 7 E m = if errF E m = 0 then m else 0 := by unfold shK; rw [if_neg hno, Int.toNat_natCast]
   have e2 : shE 7 E m = errF E m := by unfold shE; rw [if_neg hno, Int.toNat_natCast]
   rw [e1, e2]
   have cV : ∀ (b : Nat) (w : World), Rep B0 w0 ((b, .cells (gl p q g h).toArray 26) :: L) w → Calls Tryz.prog 121 #[grp p q g h, .slice a n cp, .int .i64 (m : Int), .int .i64 1] w fun e w' => ∃ X : GrN, e = .returned (.tuple #[.slice X.a (if errF E m = 0 then m else 0 : Nat) X.cap, .int .i64 (errF E m)]) ∧ xCc X (if errF E m = 0 then m else 0) V ∧ Rep B0 w0 (X.bl ++ ((b, .cells (gl p q g h).toArray 26) :: L)) w' := fun b w hw => (rvals_any (p := p) (g := g) (h := h) (V := V) (E := E) (sg := 1) (y := fun i => (i : Int) + 1) hq (by omega) (fun i hi => ⟨by rw [IntKind.wrap_i64]; omega, by omega, by omega⟩) (fun i hi => hV i (by omega)) hA hw).mono fun e w' hh => by
    rcases hh with ⟨hE, X, h1, hX, h2⟩ | ⟨hE, h1, h2⟩
    ·rw [if_pos hE, hE]
     exact ⟨X, h1, hX, h2⟩
    ·rw [if_neg hE]
     exact ⟨⟨none, 0, []⟩, h1, xBj _, h2⟩
   generalize (if errF E m = 0 then m else 0 : Nat) = kk at *
   generalize errF E m = ke at *
   clear hV hA e1 e2 hno
   go_enter Tryz.func26, Tryz.ntmps26
   go_wp2_with (first | (refine' aAq hR ?_; clear hR; intro blk w hR) | (refine' aNq hR ?_) | (go_at_call 121; refine (cV _ _ hR).mono ?_; clear hR; rintro e w ⟨X, rfl, hX, hR⟩))
   go_ret2
   exact ⟨X, rfl, hX, hR.weaken (List.Sublist.append (List.Sublist.refl _) (List.sublist_cons_self _ _))⟩
theorem rshSec_any (hq : q < B) {k : Int} {V : Nat → Nat} {E : Nat → Int}
  (hV : ∀ i : Nat, i < 3 → ∀ {L : List (Nat × Obj)} {w : World} {a : Option Addr} {cp : Nat}, NAt B0 w0 L a n cp f → Rep B0 w0 L w → Calls Tryz.prog 11 #[grp p q g h, .slice a n cp, num (sOf q (-(i : Int) - 1))] w fun e w' => e = .returned (.tuple #[num (V i), .int .i64 (E i)]) ∧ Rep B0 w0 L w')
  (hA : NAt B0 w0 [] a n cp f) (hR : Rep B0 w0 L w) :
  Calls Tryz.prog 27 #[grp p q g h, .slice a n cp, .int .i64 k] w fun e w' => ∃ X : GrN, e = .returned (.tuple #[.slice X.a (shK 3 E k) X.cap, .int .i64 (shE 3 E k)]) ∧ xCc X (shK 3 E k) V ∧ Rep B0 w0 (X.bl ++ L) w' := by
 by_cases k1 : k < 1
 ·have d1 : decide (k < 1) = true := decide_eq_true k1
  have e1 : shK 3 E k = 0 := by unfold shK; rw [if_pos (.inl k1)]
  have e2 : shE 3 E k = 1 := by unfold shE; rw [if_pos (.inl k1)]
  rw [e1, e2]
  clear hV hA e1 e2
  go_enter Tryz.func27, Tryz.ntmps27
  go_wp2_with (refine' aAq hR ?_; clear hR; intro blk w hR)
  go_ret2
  exact ⟨⟨none, 0, []⟩, rfl, xBj _, hR.weaken (List.sublist_cons_self _ _)⟩
 ·have d1 : decide (k < 1) = false := decide_eq_false k1
  by_cases k2 : 3 < k
  ·have d2 : decide (3 < k) = true := decide_eq_true k2
   have e1 : shK 3 E k = 0 := by unfold shK; rw [if_pos (.inr k2)]
   have e2 : shE 3 E k = 1 := by unfold shE; rw [if_pos (.inr k2)]
   rw [e1, e2]
   clear hV hA e1 e2
   go_enter Tryz.func27, Tryz.ntmps27
   go_wp2_with (refine' aAq hR ?_; clear hR; intro blk w hR)
   go_ret2
   exact ⟨⟨none, 0, []⟩, rfl, xBj _, hR.weaken (List.sublist_cons_self _ _)⟩
  ·have d2 : decide (3 < k) = false := decide_eq_false k2
   obtain ⟨m, rfl⟩ : ∃ m : Nat, k = (m : Int) := ⟨k.toNat, by omega⟩
   have hno : ¬ ((m : Int) < 1 ∨ 3 < (m : Int)) := fun h => h.elim k1 k2
   have e1 : shK 3 E m = if errF E m = 0 then m else 0 := by unfold shK; rw [if_neg hno, Int.toNat_natCast]
   have e2 : shE 3 E m = errF E m := by unfold shE; rw [if_neg hno, Int.toNat_natCast]
   rw [e1, e2]
   have cV : ∀ (b : Nat) (w : World), Rep B0 w0 ((b, .cells (gl p q g h).toArray 26) :: L) w → Calls Tryz.prog 121 #[grp p q g h, .slice a n cp, .int .i64 (m : Int), .int .i64 (-1)] w fun e w' => ∃ X : GrN, e = .returned (.tuple #[.slice X.a (if errF E m = 0 then m else 0 : Nat) X.cap, .int .i64 (errF E m)]) ∧ xCc X (if errF E m = 0 then m else 0) V ∧ Rep B0 w0 (X.bl ++ ((b, .cells (gl p q g h).toArray 26) :: L)) w' := fun b w hw => (rvals_any (p := p) (g := g) (h := h) (V := V) (E := E) (sg := (-1)) (y := fun i => -(i : Int) - 1) hq (by omega) (fun i hi => ⟨by rw [IntKind.wrap_i64]; omega, by omega, by omega⟩) (fun i hi => hV i (by omega)) hA hw).mono fun e w' hh => by
    rcases hh with ⟨hE, X, h1, hX, h2⟩ | ⟨hE, h1, h2⟩
    ·rw [if_pos hE, hE]
     exact ⟨X, h1, hX, h2⟩
    ·rw [if_neg hE]
     exact ⟨⟨none, 0, []⟩, h1, xBj _, h2⟩
   generalize (if errF E m = 0 then m else 0 : Nat) = kk at *
   generalize errF E m = ke at *
   clear hV hA e1 e2 hno
   go_enter Tryz.func27, Tryz.ntmps27
   go_wp2_with (first | (refine' aAq hR ?_; clear hR; intro blk w hR) | (refine' aNq hR ?_) | (go_at_call 121; refine (cV _ _ hR).mono ?_; clear hR; rintro e w ⟨X, rfl, hX, hR⟩))
   go_ret2
   exact ⟨X, rfl, hX, hR.weaken (List.Sublist.append (List.Sublist.refl _) (List.sublist_cons_self _ _))⟩
end
end
end Go.Proofs.YtaaahfjpnggkbaaGreatDoor
