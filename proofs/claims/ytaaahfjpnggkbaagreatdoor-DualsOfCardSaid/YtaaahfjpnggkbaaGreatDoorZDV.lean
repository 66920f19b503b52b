import Derived.Defers
import Derived.Recover
import Derived.Test.YtaaahfjpnggkbaaGreatDoorZF
import Derived.Test.YtaaahfjpnggkbaaGreatDoorZDU
import Derived.Test.YtaaahfjpnggkbaaGreatDoorZA
import Derived.Test.YtaaahfjpnggkbaaGreatDoorZI
set_option linter.unusedSimpArgs false
set_option linter.unusedVariables false
set_option maxRecDepth 100000
set_option maxHeartbeats 20000000
namespace Go.Proofs.YtaaahfjpnggkbaaGreatDoor
open Go.RowKit
section
attribute [local irreducible] Calls
section
variable {B0 : Nat} {w0 w : World} {L L' : List (Nat × Obj)}
theorem xEz (x : Nat) (w : World) : Calls Tryz.prog 102 #[num x, .int .i64 0] w fun e w' => e = .returned (num x) ∧ Below w.heap.size w w' := by
 have hR := Rep.init w
 go_enter Tryz.func102, Tryz.ntmps102
 go_wp2_with (first | (refine' aAq hR ?_; clear hR; intro blk w hR) | (refine' aBq hR ?_; clear hR; intro blk w hR) | (refine' aPq hR ?_) | (refine' aQq hR ?_) | (refine' aRq hR ?_) | (refine' aZq hR ?_; clear hR; intro w hR) | (refine' aAr hR ?_; clear hR; intro w hR) | fail)
 (refine' bodyPost_ret (xBc Tryz.results102 rfl (hR.loadAll (P := Tryz.prog) (ty := 24) ?hm ?hn)) rfl ⟨?_, hR.below⟩; (case hm => first | with_reducible assumption | repeat (first | exact .head _ | with_reducible assumption | apply mC)); (case hn => first | rfl | simp))
 rfl
theorem xJk (b2 b3 : Nat) (hR : Rep B0 w0 L w) : CallsD Tryz.prog 168 #[.pointer (some ⟨b2, 0, none⟩), .pointer (some ⟨b3, 0, none⟩)] .returning w fun e u' w' => e = .returned (.tuple #[]) ∧ u' = .returning ∧ Rep B0 w0 L w' := by
 refine callsD_of_wpS Tryz.func168 rfl fun c₀ cs hu => ?_
 apply wpS_seq
 apply wpS_region
 simp [wpOpsS, go_sem, recoverD, hu, Tryz.ntmps168, Exit.thenS]
 refine wpS_of_wp ?_
 simp only [Array.replicate_succ, Array.replicate_zero, List.push_toArray, List.append_toArray, List.nil_append, List.cons_append, List.setIfInBounds_toArray, List.set_cons_succ, List.set_cons_zero]
 go_wp2_with (first | (refine' aAq hR ?_; clear hR; intro blk w hR) | (refine' aBq hR ?_; clear hR; intro blk w hR) | (refine' aPq hR ?_) | (refine' aQq hR ?_) | (refine' aRq hR ?_) | (refine' aZq hR ?_; clear hR; intro w hR) | (refine' aAr hR ?_; clear hR; intro w hR) | fail)
 cases c₀
 simp_all [bodyPostS, results, Tryz.results168]
theorem assert_stop (k : Int) (xT : TypeId) (w : World) : (Instr.typeAssert (.iface 104 (.agg #[.int .i64 k])) xT 104 true).run Tryz.prog w = .ok (.tuple #[.agg #[.int .i64 k], .bool true]) w := by kernel_rfl
instance zeroIntD : xJh Tryz.prog 3 [.int .i64 0] := ⟨.int .i64 0, by kernel_rfl, rfl⟩
instance zeroErrD : xJh Tryz.prog 32 [.int .i64 0] := ⟨.int .i64 0, by kernel_rfl, rfl⟩
instance zeroStop : xJh Tryz.prog 104 [.int .i64 0] := ⟨.agg #[.int .i64 0], by kernel_rfl, rfl⟩
instance rowStop : RowT Tryz.prog 104 1 := .mk' (by kernel_rfl) (by kernel_rfl)
theorem xHw (b2 b3 : Nat) (k : Int) (hR : Rep B0 w0 ((b3, .cells [.int .i64 0].toArray 32) :: (b2, .cells [.int .i64 0].toArray 3) :: L) w) : CallsD Tryz.prog 168 #[.pointer (some ⟨b2, 0, none⟩), .pointer (some ⟨b3, 0, none⟩)] (.panicking [{ v := .iface 104 (.agg #[.int .i64 k]), recovered := false }]) w fun e u' w' => e = .returned (.tuple #[]) ∧ u' = .panicking [{ v := .iface 104 (.agg #[.int .i64 k]), recovered := true }] ∧ Rep B0 w0 ((b3, .cells [.int .i64 k].toArray 32) :: (b2, .cells [.int .i64 1].toArray 3) :: L) w' := by
 have hta := assert_stop k
 replace hR := Held.mk hR
 refine callsD_of_wpS Tryz.func168 rfl fun c₀ cs hu => ?_
 apply wpS_seq
 apply wpS_region
 simp [wpOpsS, go_sem, recoverD, hu, Tryz.ntmps168, Exit.thenS]
 refine wpS_of_wp ?_
 simp only [Array.replicate_succ, Array.replicate_zero, List.push_toArray, List.append_toArray, List.nil_append, List.cons_append, List.setIfInBounds_toArray, List.set_cons_succ, List.set_cons_zero]
 replace hR := hR.out
 go_wp2_with (first | (refine' aAq hR ?_; clear hR; intro blk w hR) | (refine' aBq hR ?_; clear hR; intro blk w hR) | (refine' aPq hR ?_) | (refine' aQq hR ?_) | (refine' aRq hR ?_) | (refine' aZq hR ?_; clear hR; intro w hR) | (refine' aAr hR ?_; clear hR; intro w hR) | fail)
 try simp only [Act.put, kA, kB, List.setIfInBounds_toArray]
 refine xAe hR [1, 1, 2, 2] [0] xBo (by kernel_rfl) rfl rfl (fun K hK => ?_)
 clear hR
 repeat ((first | (refine xAy ?_) | (refine' xAk (by decide) rfl (.inl rfl) rfl ?ha ?_) | (refine' xAk (by decide) rfl (.inr rfl) rfl ?ha ?_) | (refine' aSq ?ha ?_) | (refine' aTq ?ha ?_) | (refine' aUq ?ha ?_) | (refine' aVq ?ha ?_) | (refine' aWq ?ha ?_) | ((first | refine' xAc (by decide) rfl rfl rfl rfl (fun w => ?hq) ?ha ?_ | refine' xAs (by decide) rfl rfl rfl rfl (fun w => ?hq) ?ha ?_ | refine' xAi (by decide) rfl rfl rfl (fun w => ?hq) ?ha ?_ | refine' xAb (by decide) rfl rfl rfl (fun w => ?hq) ?ha ?_ | refine' xAh (by decide) rfl rfl rfl (fun w => ?hq) ?ha ?_ | refine' xAq (by decide) rfl rfl rfl rfl (fun w => ?hq) ?ha ?_ | refine' xAr (by decide) rfl rfl rfl rfl rfl rfl (fun w => ?hq) ?ha ?_ | refine' xAo (by decide) rfl rfl (fun w => ?hq) ?ha ?_ | refine' xAj (by decide) rfl rfl rfl (fun w => ?hq) ?ha ?_ | refine' xAp (by decide) rfl rfl rfl (fun w => ?hq) ?ha ?_); (case hq => go_simp; try rfl)) | (refine' xAf (by decide) rfl rfl rfl ?ha ?_) | (refine' xAx (by decide) rfl rfl rfl rfl ?ha ?_) | (refine' xAw (by decide) rfl ?ha ?_) | fail); try (case ha => simp only [kP, kQ, kA, kB]; try rfl))
 refine xBb (hK _ _ ?_)
 clear hK K
 refine xBe (fun Q hQ => ?_)
 try simp only [List.nil_append, List.cons_append]
 repeat ((first | refine' xAm rfl (.inl rfl) rfl ?hk ?ha ?_ | refine' xAm rfl (.inr rfl) rfl ?hk ?ha ?_ | (refine' aBr ?hk ?ha ?_) | (refine' aCr ?hk ?ha ?_) | (refine' aDr ?hk ?ha ?_) | (refine' xAz rfl (fun w => ?hq) ?hk ?ha ?_; (case hq => go_simp; try rfl))); (case hk => intro p hp; first | exact absurd hp List.not_mem_nil | (obtain rfl := List.mem_singleton.1 hp; repeat (first | exact List.Mem.head _ | with_reducible assumption | apply mC))); (case ha => simp only [kP, kQ, kA, kB]; try rfl))
 refine xBd (fun w hR => hQ _ _ ?_)
 clear hQ Q
 replace hR := Held.mk (hR.weaken (List.sublist_cons_self _ _))
 go_wp2_with (first | (refine' aAq hR ?_; clear hR; intro blk w hR) | (refine' aBq hR ?_; clear hR; intro blk w hR) | (refine' aPq hR ?_) | (refine' aQq hR ?_) | (refine' aRq hR ?_) | (refine' aZq hR ?_; clear hR; intro w hR) | (refine' aAr hR ?_; clear hR; intro w hR) | fail)
 cases c₀
 simp_all [bodyPostS, results, Tryz.results168]
 exact hR.out
theorem xHk (a b : Nat) (x y : Array Value) (t u : TypeId) : ∀ p ∈ [(a, Obj.cells x t), (b, Obj.cells y u)], p.2.isCells = true := fun p hp => by
 rcases List.mem_cons.1 hp with rfl | hp
 ·rfl
 ·rw [List.mem_singleton.1 hp]; rfl
theorem stopped_word (caps : List Value) (hq : ∀ (M : List (Nat × Obj)) (w : World), (∀ p ∈ M, p.2.isCells = true) → Rep B0 w0 (M ++ L) w → Calls Tryz.prog 101 caps.toArray w fun e w' => e = .returned (.tuple #[]) ∧ Rep B0 w0 (M ++ L') w') (hR : Rep B0 w0 L w) :
  Calls Tryz.prog 100 #[.func (.func 101) #[] caps.toArray] w fun e w' => e = .returned (.tuple #[.int .i64 0, .int .i64 0]) ∧ Rep B0 w0 L' w' := by
 have hmf : ∀ (fn : Fn) (first cap : Array Value) (w : World), (Instr.makeFunc fn first cap).run Tryz.prog w = .ok (.func fn first cap) w := fun _ _ _ _ => rfl
 go_enter_defers Tryz.func100, Tryz.ntmps100
 go_wp2_with (first | (refine' aAq hR ?_; clear hR; intro blk w hR) | (refine' aBq hR ?_; clear hR; intro blk w hR) | (refine' aPq hR ?_) | (refine' aQq hR ?_) | (refine' aRq hR ?_) | (refine' aZq hR ?_; clear hR; intro w hR) | (refine' aAr hR ?_; clear hR; intro w hR) | (go_at_call 101; refine (hq [_, _] _ (xHk _ _ _ _ _ _) hR).mono ?_; clear hR; rintro e w ⟨rfl, hR⟩))
 (first | (rename_i b2; change Nat at b2) | (rename_i b2 _; change Nat at b2) | (rename_i b2 _ _; change Nat at b2) | (rename_i b2 _ _ _; change Nat at b2) | (rename_i b2 _ _ _ _; change Nat at b2) | (rename_i b2 _ _ _ _ _; change Nat at b2) | (rename_i b2 _ _ _ _ _ _; change Nat at b2) | (rename_i b2 _ _ _ _ _ _ _; change Nat at b2) | (rename_i b2 _ _ _ _ _ _ _ _; change Nat at b2) | (rename_i b2 _ _ _ _ _ _ _ _ _; change Nat at b2) | (rename_i b2 _ _ _ _ _ _ _ _ _ _; change Nat at b2) | (rename_i b2 _ _ _ _ _ _ _ _ _ _ _; change Nat at b2) | (rename_i b2 _ _ _ _ _ _ _ _ _ _ _ _; change Nat at b2) | (rename_i b2 _ _ _ _ _ _ _ _ _ _ _ _ _; change Nat at b2) | (rename_i b2 _ _ _ _ _ _ _ _ _ _ _ _ _ _; change Nat at b2) | (rename_i b2 _ _ _ _ _ _ _ _ _ _ _ _ _ _ _; change Nat at b2) | (rename_i b2 _ _ _ _ _ _ _ _ _ _ _ _ _ _ _ _; change Nat at b2) | (rename_i b2 _ _ _ _ _ _ _ _ _ _ _ _ _ _ _ _ _; change Nat at b2) | (rename_i b2 _ _ _ _ _ _ _ _ _ _ _ _ _ _ _ _ _ _; change Nat at b2) | (rename_i b2 _ _ _ _ _ _ _ _ _ _ _ _ _ _ _ _ _ _ _; change Nat at b2) | (rename_i b2 _ _ _ _ _ _ _ _ _ _ _ _ _ _ _ _ _ _ _ _; change Nat at b2) | (rename_i b2 _ _ _ _ _ _ _ _ _ _ _ _ _ _ _ _ _ _ _ _ _; change Nat at b2) | (rename_i b2 _ _ _ _ _ _ _ _ _ _ _ _ _ _ _ _ _ _ _ _ _ _; change Nat at b2) | (rename_i b2 _ _ _ _ _ _ _ _ _ _ _ _ _ _ _ _ _ _ _ _ _ _ _; change Nat at b2) | (rename_i b2 _ _ _ _ _ _ _ _ _ _ _ _ _ _ _ _ _ _ _ _ _ _ _ _; change Nat at b2) | (rename_i b2 _ _ _ _ _ _ _ _ _ _ _ _ _ _ _ _ _ _ _ _ _ _ _ _ _; change Nat at b2) | (rename_i b2 _ _ _ _ _ _ _ _ _ _ _ _ _ _ _ _ _ _ _ _ _ _ _ _ _ _; change Nat at b2) | (rename_i b2 _ _ _ _ _ _ _ _ _ _ _ _ _ _ _ _ _ _ _ _ _ _ _ _ _ _ _; change Nat at b2) | (rename_i b2 _ _ _ _ _ _ _ _ _ _ _ _ _ _ _ _ _ _ _ _ _ _ _ _ _ _ _ _; change Nat at b2) | (rename_i b2 _ _ _ _ _ _ _ _ _ _ _ _ _ _ _ _ _ _ _ _ _ _ _ _ _ _ _ _ _; change Nat at b2))
 try simp only [Act.put, kA, kB, List.setIfInBounds_toArray]
 refine leaves_cons (f := 168) (args := #[.pointer (some ⟨b2, 0, none⟩), .pointer (some ⟨blk, 0, none⟩)]) (by simp) (by simp [go_sem]) ?_
 refine (xJk _ _ hR).mono ?_
 rintro e u' w ⟨rfl, rfl, hR⟩
 refine ⟨_, xCy Tryz.results100 rfl (hR.loadCell (P := Tryz.prog) (ty := 3) (.tail _ (.head _)) rfl) rfl (hR.loadCell (P := Tryz.prog) (ty := 32) (.head _) rfl), rfl, ?_⟩
 exact hR.weaken (.cons _ (.cons _ (List.Sublist.refl _)))
theorem stopped_wordN (caps : List Value) (k : Int) (hq : ∀ (M : List (Nat × Obj)) (w : World), (∀ p ∈ M, p.2.isCells = true) → Rep B0 w0 (M ++ L) w → Calls Tryz.prog 101 caps.toArray w fun e w' => e = .panicked [{ v := .iface 104 (.agg #[.int .i64 k]), recovered := false }] ∧ Rep B0 w0 (M ++ L') w') (hR : Rep B0 w0 L w) :
  Calls Tryz.prog 100 #[.func (.func 101) #[] caps.toArray] w fun e w' => e = .returned (.tuple #[.int .i64 1, .int .i64 k]) ∧ Rep B0 w0 L' w' := by
 have hmf : ∀ (fn : Fn) (first cap : Array Value) (w : World), (Instr.makeFunc fn first cap).run Tryz.prog w = .ok (.func fn first cap) w := fun _ _ _ _ => rfl
 go_enter_defers Tryz.func100, Tryz.ntmps100
 go_wp2_with (first | (refine' aAq hR ?_; clear hR; intro blk w hR) | (refine' aBq hR ?_; clear hR; intro blk w hR) | (refine' aPq hR ?_) | (refine' aQq hR ?_) | (refine' aRq hR ?_) | (refine' aZq hR ?_; clear hR; intro w hR) | (refine' aAr hR ?_; clear hR; intro w hR) | (go_at_call 101; refine (hq [_, _] _ (xHk _ _ _ _ _ _) hR).mono ?_; clear hR; rintro e w ⟨rfl, hR⟩))
 (first | (rename_i b2; change Nat at b2) | (rename_i b2 _; change Nat at b2) | (rename_i b2 _ _; change Nat at b2) | (rename_i b2 _ _ _; change Nat at b2) | (rename_i b2 _ _ _ _; change Nat at b2) | (rename_i b2 _ _ _ _ _; change Nat at b2) | (rename_i b2 _ _ _ _ _ _; change Nat at b2) | (rename_i b2 _ _ _ _ _ _ _; change Nat at b2) | (rename_i b2 _ _ _ _ _ _ _ _; change Nat at b2) | (rename_i b2 _ _ _ _ _ _ _ _ _; change Nat at b2) | (rename_i b2 _ _ _ _ _ _ _ _ _ _; change Nat at b2) | (rename_i b2 _ _ _ _ _ _ _ _ _ _ _; change Nat at b2) | (rename_i b2 _ _ _ _ _ _ _ _ _ _ _ _; change Nat at b2) | (rename_i b2 _ _ _ _ _ _ _ _ _ _ _ _ _; change Nat at b2) | (rename_i b2 _ _ _ _ _ _ _ _ _ _ _ _ _ _; change Nat at b2) | (rename_i b2 _ _ _ _ _ _ _ _ _ _ _ _ _ _ _; change Nat at b2) | (rename_i b2 _ _ _ _ _ _ _ _ _ _ _ _ _ _ _ _; change Nat at b2) | (rename_i b2 _ _ _ _ _ _ _ _ _ _ _ _ _ _ _ _ _; change Nat at b2) | (rename_i b2 _ _ _ _ _ _ _ _ _ _ _ _ _ _ _ _ _ _; change Nat at b2) | (rename_i b2 _ _ _ _ _ _ _ _ _ _ _ _ _ _ _ _ _ _ _; change Nat at b2) | (rename_i b2 _ _ _ _ _ _ _ _ _ _ _ _ _ _ _ _ _ _ _ _; change Nat at b2) | (rename_i b2 _ _ _ _ _ _ _ _ _ _ _ _ _ _ _ _ _ _ _ _ _; change Nat at b2) | (rename_i b2 _ _ _ _ _ _ _ _ _ _ _ _ _ _ _ _ _ _ _ _ _ _; change Nat at b2) | (rename_i b2 _ _ _ _ _ _ _ _ _ _ _ _ _ _ _ _ _ _ _ _ _ _ _; change Nat at b2) | (rename_i b2 _ _ _ _ _ _ _ _ _ _ _ _ _ _ _ _ _ _ _ _ _ _ _ _; change Nat at b2) | (rename_i b2 _ _ _ _ _ _ _ _ _ _ _ _ _ _ _ _ _ _ _ _ _ _ _ _ _; change Nat at b2) | (rename_i b2 _ _ _ _ _ _ _ _ _ _ _ _ _ _ _ _ _ _ _ _ _ _ _ _ _ _; change Nat at b2) | (rename_i b2 _ _ _ _ _ _ _ _ _ _ _ _ _ _ _ _ _ _ _ _ _ _ _ _ _ _ _; change Nat at b2) | (rename_i b2 _ _ _ _ _ _ _ _ _ _ _ _ _ _ _ _ _ _ _ _ _ _ _ _ _ _ _ _; change Nat at b2) | (rename_i b2 _ _ _ _ _ _ _ _ _ _ _ _ _ _ _ _ _ _ _ _ _ _ _ _ _ _ _ _ _; change Nat at b2))
 try simp only [Act.put, kA, kB, List.setIfInBounds_toArray]
 refine leaves_cons (f := 168) (args := #[.pointer (some ⟨b2, 0, none⟩), .pointer (some ⟨blk, 0, none⟩)]) (by simp) (by simp [go_sem]) ?_
 refine (xHw _ _ k hR).mono ?_
 rintro e u' w ⟨rfl, rfl, hR⟩
 refine ⟨_, xCy Tryz.results100 rfl (hR.loadCell (P := Tryz.prog) (ty := 3) (.tail _ (.head _)) rfl) rfl (hR.loadCell (P := Tryz.prog) (ty := 32) (.head _) rfl), rfl, ?_⟩
 exact hR.weaken (.cons _ (.cons _ (List.Sublist.refl _)))
theorem xJq (caps : List Value) (hq : ∀ (M : List (Nat × Obj)) (w : World), (∀ p ∈ M, p.2.isCells = true) → Rep B0 w0 (M ++ L) w → Calls Tryz.prog 109 caps.toArray w fun e w' => e = .returned (.tuple #[]) ∧ Rep B0 w0 (M ++ L') w') (hR : Rep B0 w0 L w) :
  Calls Tryz.prog 100 #[.func (.func 109) #[] caps.toArray] w fun e w' => e = .returned (.tuple #[.int .i64 0, .int .i64 0]) ∧ Rep B0 w0 L' w' := by
 have hmf : ∀ (fn : Fn) (first cap : Array Value) (w : World), (Instr.makeFunc fn first cap).run Tryz.prog w = .ok (.func fn first cap) w := fun _ _ _ _ => rfl
 go_enter_defers Tryz.func100, Tryz.ntmps100
 go_wp2_with (first | (refine' aAq hR ?_; clear hR; intro blk w hR) | (refine' aBq hR ?_; clear hR; intro blk w hR) | (refine' aPq hR ?_) | (refine' aQq hR ?_) | (refine' aRq hR ?_) | (refine' aZq hR ?_; clear hR; intro w hR) | (refine' aAr hR ?_; clear hR; intro w hR) | (go_at_call 109; refine (hq [_, _] _ (xHk _ _ _ _ _ _) hR).mono ?_; clear hR; rintro e w ⟨rfl, hR⟩))
 (first | (rename_i b2; change Nat at b2) | (rename_i b2 _; change Nat at b2) | (rename_i b2 _ _; change Nat at b2) | (rename_i b2 _ _ _; change Nat at b2) | (rename_i b2 _ _ _ _; change Nat at b2) | (rename_i b2 _ _ _ _ _; change Nat at b2) | (rename_i b2 _ _ _ _ _ _; change Nat at b2) | (rename_i b2 _ _ _ _ _ _ _; change Nat at b2) | (rename_i b2 _ _ _ _ _ _ _ _; change Nat at b2) | (rename_i b2 _ _ _ _ _ _ _ _ _; change Nat at b2) | (rename_i b2 _ _ _ _ _ _ _ _ _ _; change Nat at b2) | (rename_i b2 _ _ _ _ _ _ _ _ _ _ _; change Nat at b2) | (rename_i b2 _ _ _ _ _ _ _ _ _ _ _ _; change Nat at b2) | (rename_i b2 _ _ _ _ _ _ _ _ _ _ _ _ _; change Nat at b2) | (rename_i b2 _ _ _ _ _ _ _ _ _ _ _ _ _ _; change Nat at b2) | (rename_i b2 _ _ _ _ _ _ _ _ _ _ _ _ _ _ _; change Nat at b2) | (rename_i b2 _ _ _ _ _ _ _ _ _ _ _ _ _ _ _ _; change Nat at b2) | (rename_i b2 _ _ _ _ _ _ _ _ _ _ _ _ _ _ _ _ _; change Nat at b2) | (rename_i b2 _ _ _ _ _ _ _ _ _ _ _ _ _ _ _ _ _ _; change Nat at b2) | (rename_i b2 _ _ _ _ _ _ _ _ _ _ _ _ _ _ _ _ _ _ _; change Nat at b2) | (rename_i b2 _ _ _ _ _ _ _ _ _ _ _ _ _ _ _ _ _ _ _ _; change Nat at b2) | (rename_i b2 _ _ _ _ _ _ _ _ _ _ _ _ _ _ _ _ _ _ _ _ _; change Nat at b2) | (rename_i b2 _ _ _ _ _ _ _ _ _ _ _ _ _ _ _ _ _ _ _ _ _ _; change Nat at b2) | (rename_i b2 _ _ _ _ _ _ _ _ _ _ _ _ _ _ _ _ _ _ _ _ _ _ _; change Nat at b2) | (rename_i b2 _ _ _ _ _ _ _ _ _ _ _ _ _ _ _ _ _ _ _ _ _ _ _ _; change Nat at b2) | (rename_i b2 _ _ _ _ _ _ _ _ _ _ _ _ _ _ _ _ _ _ _ _ _ _ _ _ _; change Nat at b2) | (rename_i b2 _ _ _ _ _ _ _ _ _ _ _ _ _ _ _ _ _ _ _ _ _ _ _ _ _ _; change Nat at b2) | (rename_i b2 _ _ _ _ _ _ _ _ _ _ _ _ _ _ _ _ _ _ _ _ _ _ _ _ _ _ _; change Nat at b2) | (rename_i b2 _ _ _ _ _ _ _ _ _ _ _ _ _ _ _ _ _ _ _ _ _ _ _ _ _ _ _ _; change Nat at b2) | (rename_i b2 _ _ _ _ _ _ _ _ _ _ _ _ _ _ _ _ _ _ _ _ _ _ _ _ _ _ _ _ _; change Nat at b2))
 try simp only [Act.put, kA, kB, List.setIfInBounds_toArray]
 refine leaves_cons (f := 168) (args := #[.pointer (some ⟨b2, 0, none⟩), .pointer (some ⟨blk, 0, none⟩)]) (by simp) (by simp [go_sem]) ?_
 refine (xJk _ _ hR).mono ?_
 rintro e u' w ⟨rfl, rfl, hR⟩
 refine ⟨_, xCy Tryz.results100 rfl (hR.loadCell (P := Tryz.prog) (ty := 3) (.tail _ (.head _)) rfl) rfl (hR.loadCell (P := Tryz.prog) (ty := 32) (.head _) rfl), rfl, ?_⟩
 exact hR.weaken (.cons _ (.cons _ (List.Sublist.refl _)))
theorem xIo (caps : List Value) (k : Int) (hq : ∀ (M : List (Nat × Obj)) (w : World), (∀ p ∈ M, p.2.isCells = true) → Rep B0 w0 (M ++ L) w → Calls Tryz.prog 109 caps.toArray w fun e w' => e = .panicked [{ v := .iface 104 (.agg #[.int .i64 k]), recovered := false }] ∧ Rep B0 w0 (M ++ L') w') (hR : Rep B0 w0 L w) :
  Calls Tryz.prog 100 #[.func (.func 109) #[] caps.toArray] w fun e w' => e = .returned (.tuple #[.int .i64 1, .int .i64 k]) ∧ Rep B0 w0 L' w' := by
 have hmf : ∀ (fn : Fn) (first cap : Array Value) (w : World), (Instr.makeFunc fn first cap).run Tryz.prog w = .ok (.func fn first cap) w := fun _ _ _ _ => rfl
 go_enter_defers Tryz.func100, Tryz.ntmps100
 go_wp2_with (first | (refine' aAq hR ?_; clear hR; intro blk w hR) | (refine' aBq hR ?_; clear hR; intro blk w hR) | (refine' aPq hR ?_) | (refine' aQq hR ?_) | (refine' aRq hR ?_) | (refine' aZq hR ?_; clear hR; intro w hR) | (refine' aAr hR ?_; clear hR; intro w hR) | (go_at_call 109; refine (hq [_, _] _ (xHk _ _ _ _ _ _) hR).mono ?_; clear hR; rintro e w ⟨rfl, hR⟩))
 (first | (rename_i b2; change Nat at b2) | (rename_i b2 _; change Nat at b2) | (rename_i b2 _ _; change Nat at b2) | (rename_i b2 _ _ _; change Nat at b2) | (rename_i b2 _ _ _ _; change Nat at b2) | (rename_i b2 _ _ _ _ _; change Nat at b2) | (rename_i b2 _ _ _ _ _ _; change Nat at b2) | (rename_i b2 _ _ _ _ _ _ _; change Nat at b2) | (rename_i b2 _ _ _ _ _ _ _ _; change Nat at b2) | (rename_i b2 _ _ _ _ _ _ _ _ _; change Nat at b2) | (rename_i b2 _ _ _ _ _ _ _ _ _ _; change Nat at b2) | (rename_i b2 _ _ _ _ _ _ _ _ _ _ _; change Nat at b2) | (rename_i b2 _ _ _ _ _ _ _ _ _ _ _ _; change Nat at b2) | (rename_i b2 _ _ _ _ _ _ _ _ _ _ _ _ _; change Nat at b2) | (rename_i b2 _ _ _ _ _ _ _ _ _ _ _ _ _ _; change Nat at b2) | (rename_i b2 _ _ _ _ _ _ _ _ _ _ _ _ _ _ _; change Nat at b2) | (rename_i b2 _ _ _ _ _ _ _ _ _ _ _ _ _ _ _ _; change Nat at b2) | (rename_i b2 _ _ _ _ _ _ _ _ _ _ _ _ _ _ _ _ _; change Nat at b2) | (rename_i b2 _ _ _ _ _ _ _ _ _ _ _ _ _ _ _ _ _ _; change Nat at b2) | (rename_i b2 _ _ _ _ _ _ _ _ _ _ _ _ _ _ _ _ _ _ _; change Nat at b2) | (rename_i b2 _ _ _ _ _ _ _ _ _ _ _ _ _ _ _ _ _ _ _ _; change Nat at b2) | (rename_i b2 _ _ _ _ _ _ _ _ _ _ _ _ _ _ _ _ _ _ _ _ _; change Nat at b2) | (rename_i b2 _ _ _ _ _ _ _ _ _ _ _ _ _ _ _ _ _ _ _ _ _ _; change Nat at b2) | (rename_i b2 _ _ _ _ _ _ _ _ _ _ _ _ _ _ _ _ _ _ _ _ _ _ _; change Nat at b2) | (rename_i b2 _ _ _ _ _ _ _ _ _ _ _ _ _ _ _ _ _ _ _ _ _ _ _ _; change Nat at b2) | (rename_i b2 _ _ _ _ _ _ _ _ _ _ _ _ _ _ _ _ _ _ _ _ _ _ _ _ _; change Nat at b2) | (rename_i b2 _ _ _ _ _ _ _ _ _ _ _ _ _ _ _ _ _ _ _ _ _ _ _ _ _ _; change Nat at b2) | (rename_i b2 _ _ _ _ _ _ _ _ _ _ _ _ _ _ _ _ _ _ _ _ _ _ _ _ _ _ _; change Nat at b2) | (rename_i b2 _ _ _ _ _ _ _ _ _ _ _ _ _ _ _ _ _ _ _ _ _ _ _ _ _ _ _ _; change Nat at b2) | (rename_i b2 _ _ _ _ _ _ _ _ _ _ _ _ _ _ _ _ _ _ _ _ _ _ _ _ _ _ _ _ _; change Nat at b2))
 try simp only [Act.put, kA, kB, List.setIfInBounds_toArray]
 refine leaves_cons (f := 168) (args := #[.pointer (some ⟨b2, 0, none⟩), .pointer (some ⟨blk, 0, none⟩)]) (by simp) (by simp [go_sem]) ?_
 refine (xHw _ _ k hR).mono ?_
 rintro e u' w ⟨rfl, rfl, hR⟩
 refine ⟨_, xCy Tryz.results100 rfl (hR.loadCell (P := Tryz.prog) (ty := 3) (.tail _ (.head _)) rfl) rfl (hR.loadCell (P := Tryz.prog) (ty := 32) (.head _) rfl), rfl, ?_⟩
 exact hR.weaken (.cons _ (.cons _ (List.Sublist.refl _)))
end
end
section
attribute [local irreducible] Calls Instr.build Instr.buildSlice
noncomputable def wL (p q g h n len cp : Nat) (a : Option Addr) (gb b8 b5 b4 b3 : Nat) (F : Nat → Nat) : List (Nat × Obj) := [(b8, .cells [.slice (some ⟨gb, 0, none⟩) n n].toArray 27), (gb, .cells (xBy F n).toArray 24), (b5, .cells [.slice a len cp].toArray 27), (b4, .cells [.int .i64 (n : Int)].toArray 3), (b3, .cells (gl p q g h).toArray 26)]
noncomputable def wdL (q c i : Nat) {n : Nat} (l : List (Oth n i)) : Nat := l.foldl (fun r k => mulN r (invM (sOf q ((i : Int) - (k.1 : Int))) q) q) c
theorem wdL_nil (q c i : Nat) {n : Nat} : wdL q c i ([] : List (Oth n i)) = c := rfl
theorem wdL_snoc (q c i : Nat) {n : Nat} (l : List (Oth n i)) (x : Oth n i) : wdL q c i (l ++ [x]) = mulN (wdL q c i l) (invM (sOf q ((i : Int) - (x.1 : Int))) q) q := by unfold wdL; rw [List.foldl_append]; rfl
theorem wdL_lt {q c i : Nat} (h1 : 1 < q) (hc : c < q) {n : Nat} (l : List (Oth n i)) : wdL q c i l < q := by
 rcases List.eq_nil_or_concat l with rfl | ⟨l, x, rfl⟩
 ·exact hc
 ·rw [List.concat_eq_append, wdL_snoc]; exact mul_lt' h1 _ _
theorem wdL_all {q c i n : Nat} : ∀ m, m ≤ n → wdL q c i (othL n i m) = wdS q c i m
  | 0, _ => rfl
  | m + 1, h => by
    have ih := wdL_all (q := q) (c := c) (i := i) (n := n) m (by omega)
    rw [wdS]
    by_cases e : m = i
    · subst e
      rw [if_pos rfl, othL_same, ih]
    · rw [if_neg e, othL_next ⟨by omega, e⟩, wdL_snoc, ih]
noncomputable def c0F (q len : Nat) (P : Nat → Nat) (i : Nat) : Nat := atN q P len (ptF q i)
noncomputable def xFg (q n len : Nat) (P : Nat → Nat) (i : Nat) : Nat := wdS q (c0F q len P i) i n
noncomputable def xCd (q n len : Nat) (P : Nat → Nat) (i v j : Nat) : Nat := if j < i then xFg q n len P j else if j = i then v else 0
theorem wordF_lt {q n len : Nat} {P : Nat → Nat} (h1 : 1 < q) (i : Nat) : xFg q n len P i < q := wdS_lt h1 (atN_lt h1 _ _ _) _
section
variable {B0 : Nat} {w0 w : World} {p q g h n len cp : Nat} {a : Option Addr} {P : Nat → Nat}
theorem xJi {L : List (Nat × Obj)} (i0 : Int) (k : Int) (hR : Rep B0 w0 L w) : Calls Tryz.prog 104 #[.int .i64 i0, .int .i64 k] w fun e w' => ∃ Bn Bi, e = .returned (.func (.func 176) #[] #[.pointer (some ⟨Bn, 0, none⟩), .pointer (some ⟨Bi, 0, none⟩)]) ∧ Rep B0 w0 ((Bn, .cells [.int .i64 k].toArray 3) :: (Bi, .cells [.int .i64 i0].toArray 3) :: L) w' := by
 refine (dothers_any i0 k w).mono ?_
 rintro e w' ⟨rfl, rfl⟩
 refine ⟨_, _, rfl, ?_⟩
 have := (hR.alloc (.cells #[.int .i64 i0] 3)).alloc (.cells #[.int .i64 k] 3)
 simpa using this
theorem word1_any (hp : p < B) (hq : q < B) (h1 : 1 < q) (hA : NAt B0 w0 [] a len cp P) (hl : len ≤ 1000) (hP : ∀ j, j < len → P j < q) (hd : difOK q n) (hn : n ≤ 1000) {gb b8 b5 b4 b3 : Nat} (M : List (Nat × Obj)) (hM : ∀ x ∈ M, x.2.isCells = true) (hR : Rep B0 w0 (M ++ wL p q g h n len cp a gb b8 b5 b4 b3 (fun _ => 0)) w) :
  Calls Tryz.prog 101 #[.pointer (some ⟨b8, 0, none⟩), .pointer (some ⟨b3, 0, none⟩), .pointer (some ⟨b5, 0, none⟩), .pointer (some ⟨b4, 0, none⟩)] w fun e w' => e = .returned (.tuple #[]) ∧ Rep B0 w0 (M ++ wL p q g h n len cp a gb b8 b5 b4 b3 (xFg q n len P)) w' := by
 have e0 : xBy (fun _ => 0) n = xBy (xCd q n len P 0 0) n := xBw fun j _ => by unfold xCd; simp
 replace hR := (show Rep B0 w0 (xDb [] ++ (M ++ wL p q g h n len cp a gb b8 b5 b4 b3 (fun _ => 0))) w from hR)
 unfold wL at hR
 rw [e0] at hR
 clear e0
 have mem8 : ∀ (X : List (Nat × Obj)) (F : Nat → Nat), (b8, Obj.cells [Value.slice (some ⟨gb, 0, none⟩) n n].toArray 27) ∈ X ++ (M ++ wL p q g h n len cp a gb b8 b5 b4 b3 F) := fun X F => List.mem_append_right _ (List.mem_append_right _ (.head _))
 have mem5 : ∀ (X : List (Nat × Obj)) (F : Nat → Nat), (b5, Obj.cells [Value.slice a len cp].toArray 27) ∈ X ++ (M ++ wL p q g h n len cp a gb b8 b5 b4 b3 F) := fun X F => List.mem_append_right _ (List.mem_append_right _ (.tail _ (.tail _ (.head _))))
 have mem4 : ∀ (X : List (Nat × Obj)) (F : Nat → Nat), (b4, Obj.cells [Value.int .i64 (n : Int)].toArray 3) ∈ X ++ (M ++ wL p q g h n len cp a gb b8 b5 b4 b3 F) := fun X F => List.mem_append_right _ (List.mem_append_right _ (.tail _ (.tail _ (.tail _ (.head _)))))
 have mem3 : ∀ (X : List (Nat × Obj)) (F : Nat → Nat), (b3, Obj.cells (gl p q g h).toArray 26) ∈ X ++ (M ++ wL p q g h n len cp a gb b8 b5 b4 b3 F) := fun X F => List.mem_append_right _ (List.mem_append_right _ (.tail _ (.tail _ (.tail _ (.tail _ (.head _))))))
 replace hR := (show Rep B0 w0 (xDb [] ++ (M ++ wL p q g h n len cp a gb b8 b5 b4 b3 (xCd q n len P 0 0))) w from hR)
 replace hA := Held.mk hA
 replace hP := Held.mk hP
 replace hd := Held.mk hd
 replace hM := Held.mk hM
 refine (callsIn_wide (n := 5)).1 ?_
 refine callsIn_of_wp_marks Tryz.func101 rfl trivial ?_ rfl
 simp only [Tryz.ntmps101, List.size_toArray, List.length_cons, List.length_nil, Nat.reduceAdd, Nat.reduceSub, Array.replicate_succ, Array.replicate_zero, List.push_toArray, List.append_toArray, List.nil_append, List.cons_append]
 refine wpIn_wide.2 ?_
 have m8 := mem8 (xDb []) (xCd q n len P 0 0)
 go_wp2_with (first | (refine' aAq hR ?_; clear hR; intro blk w hR) | (refine' aBq hR ?_; clear hR; intro blk w hR) | (refine' aPq hR ?_) | (refine' aQq hR ?_) | (refine' aRq hR ?_) | (refine' aZq hR ?_; clear hR; intro w hR) | (refine' aAr hR ?_; clear hR; intro w hR) | fail)
 clear m8
 try simp only [Act.put, kA, kB, List.setIfInBounds_toArray]
 refine' xJj (false :: false :: false :: false :: true :: true :: false :: false :: false :: true :: true :: true :: true :: true :: true :: true :: true :: true :: true :: true :: true :: true :: true :: true :: true :: true :: true :: true :: true :: true :: true :: true :: true :: true :: true :: true :: true :: true :: true :: true :: true :: true :: true :: true :: true :: true :: true :: true :: true :: true :: true :: true :: true :: []) (fun (v : Nat × List Nat) l => l.set 8 (.int .i64 (v.1 : Int))) (fun v => v.2.map coll) (fun v => xDb v.2 ++ (M ++ wL p q g h n len cp a gb b8 b5 b4 b3 (xCd q n len P v.1 0))) (fun v => n - v.1) (fun v => v.1 ≤ n) (0, []) ?h0 ?hO ?hR ?hs
 case h0 => exact xAn rfl rfl rfl
 case hO => exact Nat.zero_le _
 case hR => exact hR
 case hs =>
  clear hR
  intro v tm w hi ht hR K hK
  obtain ⟨i, Ds⟩ := v
  simp only at hi ht hR
  have g0 : 0 ≤ (i : Int) := by omega
  by_cases hik : i = n
  ·subst hik
   have t1 : ¬ (i : Int) < (i : Int) := by omega
   clear hK
   repeat (first | (obtain ⟨x, tm', e, ht'⟩ := xAg ht; clear ht; subst e; have ht := ht'; clear ht') | (obtain ⟨tm', e, ht'⟩ := xAd ht; clear ht; subst e; have ht := ht'; clear ht'))
   obtain rfl := xAl ht
   clear ht
   go_wp2_with (first | (refine' aAq hR ?_; clear hR; intro blk w hR) | (refine' aBq hR ?_; clear hR; intro blk w hR) | (refine' aPq hR ?_) | (refine' aQq hR ?_) | (refine' aRq hR ?_) | (refine' aZq hR ?_; clear hR; intro w hR) | (refine' aAr hR ?_; clear hR; intro w hR) | fail)
   have er : xBy (xCd q i len P i 0) i = xBy (xFg q i len P) i := xBw fun j hj => by unfold xCd; rw [if_pos hj]
   unfold wL at hR ⊢
   rw [er] at hR
   exact xIl Ds _ hR fun W' h => ⟨_, results_none rfl _ _ _, rfl, h⟩
  ·have t1 : (i : Int) < (n : Int) := by omega
   have hin : i < n := by omega
   have hi1 : i + 1 ≤ n := by omega
   have hmu : n - (i + 1) < n - i := by omega
   have ei : IntKind.i64.wrap ((i : Int) + 1) = (i : Int) + 1 := by rw [IntKind.wrap_i64]; omega
   obtain ⟨x0, hx0⟩ : ∃ x, ptF q i = x := ⟨_, rfl⟩
   have lx0 : x0 < q := by rw [← hx0]; exact ptF_lt h1 i
   obtain ⟨c0, hc0⟩ : ∃ x, atN q P len x0 = x := ⟨_, rfl⟩
   have lc0 : c0 < q := by rw [← hc0]; exact atN_lt h1 _ _ _
   have ec0 : c0F q len P i = c0 := by rw [c0F, hx0, hc0]
   have cO := SO (p := p) (g := g) (h := h) (n := (i : Int) + 1) hq (by omega) (by omega) hx0
   have cA := fun (L : List (Nat × Obj)) (w : World) (hw : Rep B0 w0 L w) => at_yes (g := g) (h := h) hp hq hl (hA.out.any (L := L)) ⟨⟨h1, hP.out⟩, lx0⟩ hw
   rw [hc0] at cA
   have cM := fun w => xEz c0 w
   have hset : ∀ (u v : Nat), ∀ j, j < n → xCd q n len P i v j = if j = i then v else xCd q n len P i u j := fun u v j _ => by
    unfold xCd
    by_cases hji : j = i
    ·simp [hji]
    ·simp [hji]
   have m8 := mem8 (xDb Ds) (xCd q n len P i 0)
   have m5 := mem5 (xDb Ds) (xCd q n len P i 0)
   have m4 := mem4 (xDb Ds) (xCd q n len P i 0)
   have m3 := mem3 (xDb Ds) (xCd q n len P i 0)
   replace hin := Held.mk hin
   replace hi1 := Held.mk hi1
   replace hmu := Held.mk hmu
   replace ec0 := Held.mk ec0
   replace hset := Held.mk hset
   clear hi hik hx0 hc0
   repeat (first | (obtain ⟨x, tm', e, ht'⟩ := xAg ht; clear ht; subst e; have ht := ht'; clear ht') | (obtain ⟨tm', e, ht'⟩ := xAd ht; clear ht; subst e; have ht := ht'; clear ht'))
   obtain rfl := xAl ht
   clear ht
   go_wp2_with (first | (refine' aAq hR ?_; clear hR; intro blk w hR) | (refine' aBq hR ?_; clear hR; intro blk w hR) | (refine' aPq hR ?_) | (refine' aQq hR ?_) | (refine' aRq hR ?_) | (refine' aZq hR ?_; clear hR; intro w hR) | (refine' aAr hR ?_; clear hR; intro w hR) | fail)
   try simp only [Act.put, kA, kB, List.setIfInBounds_toArray]
   refine xAe hR [0, 0, 0, 0, 0, 0, 0, 0, 0, 0, 0, 0, 0, 2] [] xBo (by kernel_rfl) rfl rfl (fun K hK => ?_)
   clear hR
   repeat ((first | (refine xAy ?_) | (refine' xAk (by decide) rfl (.inl rfl) rfl ?ha ?_) | (refine' xAk (by decide) rfl (.inr rfl) rfl ?ha ?_) | (refine' aSq ?ha ?_) | (refine' aTq ?ha ?_) | (refine' aUq ?ha ?_) | (refine' aVq ?ha ?_) | (refine' aWq ?ha ?_) | ((first | refine' xAc (by decide) rfl rfl rfl rfl (fun w => ?hq) ?ha ?_ | refine' xAs (by decide) rfl rfl rfl rfl (fun w => ?hq) ?ha ?_ | refine' xAi (by decide) rfl rfl rfl (fun w => ?hq) ?ha ?_ | refine' xAb (by decide) rfl rfl rfl (fun w => ?hq) ?ha ?_ | refine' xAh (by decide) rfl rfl rfl (fun w => ?hq) ?ha ?_ | refine' xAq (by decide) rfl rfl rfl rfl (fun w => ?hq) ?ha ?_ | refine' xAr (by decide) rfl rfl rfl rfl rfl rfl (fun w => ?hq) ?ha ?_ | refine' xAo (by decide) rfl rfl (fun w => ?hq) ?ha ?_ | refine' xAj (by decide) rfl rfl rfl (fun w => ?hq) ?ha ?_ | refine' xAp (by decide) rfl rfl rfl (fun w => ?hq) ?ha ?_); (case hq => go_simp; try rfl)) | (refine' xAf (by decide) rfl rfl rfl ?ha ?_) | (refine' xAx (by decide) rfl rfl rfl rfl ?ha ?_) | (refine' xAw (by decide) rfl ?ha ?_) | (refine' xAt rfl rfl rfl (xAv Tryz.func103 (by kernel_rfl) (by kernel_rfl) _) (fun w => cO w) ?ha ?_) | (refine' xEx rfl rfl rfl (xAv Tryz.func8 (by kernel_rfl) (by kernel_rfl) _) (fun w hw => cA _ w hw) ?ha ?_) | (refine' xAt rfl rfl rfl (xAv Tryz.func102 (by kernel_rfl) (by kernel_rfl) _) (fun w => cM w) ?ha ?_)); try (case ha => simp only [kP, kQ, kA, kB]; try rfl))
   refine xBb (hK _ _ ?_)
   clear hK K
   refine xBe (fun Q hQ => ?_)
   try simp only [List.nil_append, List.cons_append]
   try simp only [kP, kQ, kA, kB]
   refine tl_y (xGx (t := 24) (i := i) (n := n) (v := c0) (f := xCd q n len P i 0) (f' := xCd q n len P i c0) rfl rfl rfl rfl hin.out (hset.out 0 c0) (show xBq ((blk, _) :: (xDb Ds ++ (M ++ wL p q g h n len cp a gb b8 b5 b4 b3 (xCd q n len P i 0)))) gb _ _ ((blk, _) :: (xDb Ds ++ (M ++ wL p q g h n len cp a gb b8 b5 b4 b3 (xCd q n len P i c0)))) from .tail (xBq.app (xBq.app (.tail .head) M) (xDb Ds)))) (fun p hp => absurd hp List.not_mem_nil) rfl ?_
   refine xBd (fun w hR => hQ _ _ ?_)
   clear hQ Q m8 m5 m4 m3 cO cA cM
   have m8 := mem8 (xDb Ds) (xCd q n len P i c0)
   have m4 := mem4 (xDb Ds) (xCd q n len P i c0)
   have m3 := mem3 (xDb Ds) (xCd q n len P i c0)
   go_wp2_with (first | (refine' aAq hR ?_; clear hR; intro blk w hR) | (refine' aBq hR ?_; clear hR; intro blk w hR) | (refine' aPq hR ?_) | (refine' aQq hR ?_) | (refine' aRq hR ?_) | (refine' aZq hR ?_; clear hR; intro w hR) | (refine' aAr hR ?_; clear hR; intro w hR) | (go_at_call 104; refine (xJi _ _ hR).mono ?_; clear hR; rintro e w ⟨Bn, Bi, rfl, hR⟩))
   obtain ⟨c, hc_⟩ : ∃ y, y = blk := ⟨_, rfl⟩
   subst hc_
   clear m8 m4 m3
   refine range_others (B0 := B0) (w0 := w0) (n := n) (i := i) Ds Bn Bi (fun pre => (Bn, Obj.cells [Value.int .i64 (n : Int)].toArray 3) :: (Bi, Obj.cells [Value.int .i64 ((i : Int) + 1)].toArray 3) :: (c, Obj.cells [Value.int .i64 (i : Int)].toArray 3) :: (M ++ wL p q g h n len cp a gb b8 b5 b4 b3 (xCd q n len P i (wdL q c0 i pre)))) rfl (by omega) (by have := hin.out; omega) (fun pre => .head _) (fun pre => .tail _ (.head _)) ?hR ?hL ?hvars ?hbody ?hdone
   case hR =>
    rw [wdL_nil]
    exact hR.permN (List.perm_append_comm_assoc [_, _, _] (xDb Ds) _)
   case hL =>
    intro pre x hx
    rcases List.mem_cons.1 hx with rfl | hx
    ·rfl
    rcases List.mem_cons.1 hx with rfl | hx
    ·rfl
    rcases List.mem_cons.1 hx with rfl | hx
    ·rfl
    rcases List.mem_append.1 hx with hx | hx
    ·exact hM.out x hx
    ·unfold wL at hx
     simp only [List.mem_cons, List.not_mem_nil, or_false] at hx
     rcases hx with rfl | rfl | rfl | rfl | rfl <;> rfl
   case hvars =>
    clear hR
    intro k pre x W2 K hR hK
    replace hK := Held.mk hK
    simp only [List.set_cons_succ, List.set_cons_zero]
    gi_wp2
    exact hK.out _ hR
   case hbody =>
    clear hR
    intro k pre x W2 hR
    unfold slotsO
    simp only [List.set_cons_succ, List.set_cons_zero]
    obtain ⟨cur, hcur⟩ : ∃ r, wdL q c0 i pre = r := ⟨_, rfl⟩
    have lcur : cur < q := by rw [← hcur]; exact wdL_lt h1 lc0 pre
    have hxl := x.2
    obtain ⟨y, hy⟩ : ∃ y, x.1 = y := ⟨_, rfl⟩
    rw [hy] at hxl
    obtain ⟨dv, hdv⟩ : ∃ r, sOf q ((i : Int) - (y : Int)) = r := ⟨_, rfl⟩
    have ldv : dv < q := by rw [← hdv]; exact sOf_lt h1 _
    have gdv : Nat.gcd dv q = 1 := by rw [← hdv]; exact hd.out i y hin.out hxl.1 (Ne.symm hxl.2)
    obtain ⟨iv, hiv⟩ : ∃ r, invM dv q = r := ⟨_, rfl⟩
    have liv : iv < q := by rw [← hiv]; exact (xGb h1 ldv gdv).1
    obtain ⟨nv, hnv⟩ : ∃ r, mulN cur iv q = r := ⟨_, rfl⟩
    have enx : wdL q c0 i (pre ++ [x]) = nv := by rw [wdL_snoc, hcur, hy, hdv, hiv, hnv]
    rw [hcur] at hR
    rw [enx, hy]
    have es : IntKind.i64.wrap ((i : Int) + 1 - ((y : Int) + 1)) = (i : Int) - (y : Int) := by have := hin.out; rw [IntKind.wrap_i64]; omega
    obtain ⟨C, hC⟩ : ∃ C : World → Prop, C = RK W2 B0 w0 ((Bn, Obj.cells [Value.int .i64 (n : Int)].toArray 3) :: (Bi, Obj.cells [Value.int .i64 ((i : Int) + 1)].toArray 3) :: (c, Obj.cells [Value.int .i64 (i : Int)].toArray 3) :: (M ++ wL p q g h n len cp a gb b8 b5 b4 b3 (xCd q n len P i cur))) := ⟨_, rfl⟩
    have l8 : ∀ w, C w → (loadVar 27 ⟨b8, 0, none⟩).run Tryz.prog w = .ok (.slice (some ⟨gb, 0, none⟩) n n) w := fun w hw => by
     rw [hC] at hw
     exact hw.rep.loadCell (P := Tryz.prog) (ty := 27) (mem8 [_, _, _] _) rfl
    have lc : ∀ w, C w → (loadVar 3 ⟨c, 0, none⟩).run Tryz.prog w = .ok (.int .i64 (i : Int)) w := fun w hw => by
     rw [hC] at hw
     exact hw.rep.loadCell (P := Tryz.prog) (ty := 3) (.tail _ (.tail _ (.head _))) rfl
    have l3 : ∀ w, C w → (loadVar 26 ⟨b3, 0, none⟩).run Tryz.prog w = .ok (grp p q g h) w := fun w hw => by
     rw [hC] at hw
     exact hw.rep.loadAll (P := Tryz.prog) (ty := 26) (mem3 [_, _, _] _) rfl
    have lr : ∀ w, C w → (loadVar 24 ⟨gb, i * 4, none⟩).run Tryz.prog w = .ok (num cur) w := fun w hw => by
     rw [hC] at hw
     have hrow := rowsN_row (f := xCd q n len P i cur) hin.out
     rw [show xCd q n len P i cur i = cur by unfold xCd; simp] at hrow
     exact hw.rep.loadRow (P := Tryz.prog) (ty := 24) (.tail _ (.tail _ (.tail _ (List.mem_append_right _ (.tail _ (.head _)))))) hrow rfl
    have kC : ∀ {w w' : World}, C w → Below w.heap.size w w' → C w' := fun hw hb => by
     rw [hC] at hw ⊢
     exact hw.call hb
    have q1 : ∀ w, C w → Calls Tryz.prog 103 #[grp p q g h, .int .i64 ((i : Int) - (y : Int))] w fun e w' => e = .returned (num dv) ∧ C w' := fun w hw => (SO (p := p) (g := g) (h := h) hq (by have := hin.out; omega) (by have := hin.out; omega) hdv w).mono fun e w' ⟨he, hb⟩ => ⟨he, kC hw hb⟩
    have q2 : ∀ w, C w → Calls Tryz.prog 106 #[grp p q g h, num dv] w fun e w' => e = .returned (.tuple #[num iv, .int .i64 0]) ∧ C w' := fun w hw => (SI (p := p) (g := g) (h := h) hq h1 ldv gdv hiv w).mono fun e w' ⟨he, hb⟩ => ⟨he, kC hw hb⟩
    have q3 : ∀ w, C w → Calls Tryz.prog 102 #[num iv, .int .i64 0] w fun e w' => e = .returned (num iv) ∧ C w' := fun w hw => (xEz iv w).mono fun e w' ⟨he, hb⟩ => ⟨he, kC hw hb⟩
    have q4 : ∀ w, C w → Calls Tryz.prog 105 #[grp p q g h, num cur, num iv] w fun e w' => e = .returned (.tuple #[num nv, .int .i64 0]) ∧ C w' := fun w hw => (SM (p := p) (g := g) (h := h) hq h1 lcur liv hnv w).mono fun e w' ⟨he, hb⟩ => ⟨he, kC hw hb⟩
    have q5 : ∀ w, C w → Calls Tryz.prog 102 #[num nv, .int .i64 0] w fun e w' => e = .returned (num nv) ∧ C w' := fun w hw => (xEz nv w).mono fun e w' ⟨he, hb⟩ => ⟨he, kC hw hb⟩
    have hCR : C W2.drew := by rw [hC]; exact hR.drew
    clear kC hR hcur lcur hdv ldv gdv hiv liv hnv enx hxl
    refine wpIn_block ?_
    refine xDp C hCR [0, 0, 0, 0, 0, 0, 0, 0, 0, 0, 0, 0, 0, 0, 0, 0, 0, 0, 0, 0, 0, 0, 0, 2] (fun ⟨_, _, hh⟩ => hh) rfl xBo (by kernel_rfl) rfl rfl (fun K hK => ?_)
    repeat ((first | (refine' xCg rfl rfl rfl l8 ?ha ?_) | (refine' xCg rfl rfl rfl lc ?ha ?_) | (refine' xCg rfl rfl rfl l3 ?ha ?_) | (refine' xCg rfl rfl rfl lr ?ha ?_) | (refine' xCn rfl rfl rfl (fun w => xAv Tryz.func103 (by kernel_rfl) (by kernel_rfl) _ w) q1 ?ha ?_) | (refine' xCn rfl rfl rfl (fun w => xAv Tryz.func106 (by kernel_rfl) (by kernel_rfl) _ w) q2 ?ha ?_) | (refine' xCn rfl rfl rfl (fun w => xAv Tryz.func102 (by kernel_rfl) (by kernel_rfl) _ w) q3 ?ha ?_) | (refine' xCn rfl rfl rfl (fun w => xAv Tryz.func105 (by kernel_rfl) (by kernel_rfl) _ w) q4 ?ha ?_) | (refine' xCn rfl rfl rfl (fun w => xAv Tryz.func102 (by kernel_rfl) (by kernel_rfl) _ w) q5 ?ha ?_) | (refine xAy ?_) | (refine' xAk (by decide) rfl (.inl rfl) rfl ?ha ?_) | (refine' xAk (by decide) rfl (.inr rfl) rfl ?ha ?_) | (refine' aSq ?ha ?_) | (refine' aTq ?ha ?_) | (refine' aUq ?ha ?_) | (refine' aVq ?ha ?_) | (refine' aWq ?ha ?_) | ((first | refine' xAc (by decide) rfl rfl rfl rfl (fun w => ?hq) ?ha ?_ | refine' xAs (by decide) rfl rfl rfl rfl (fun w => ?hq) ?ha ?_ | refine' xAi (by decide) rfl rfl rfl (fun w => ?hq) ?ha ?_ | refine' xAb (by decide) rfl rfl rfl (fun w => ?hq) ?ha ?_ | refine' xAh (by decide) rfl rfl rfl (fun w => ?hq) ?ha ?_ | refine' xAq (by decide) rfl rfl rfl rfl (fun w => ?hq) ?ha ?_ | refine' xAr (by decide) rfl rfl rfl rfl rfl rfl (fun w => ?hq) ?ha ?_ | refine' xAo (by decide) rfl rfl (fun w => ?hq) ?ha ?_ | refine' xAj (by decide) rfl rfl rfl (fun w => ?hq) ?ha ?_ | refine' xAp (by decide) rfl rfl rfl (fun w => ?hq) ?ha ?_); (case hq => go_simp; try rfl)) | (refine' xAf (by decide) rfl rfl rfl ?ha ?_) | (refine' xAx (by decide) rfl rfl rfl rfl ?ha ?_) | (refine' xAw (by decide) rfl ?ha ?_)); try (case ha => simp only [kP, kQ, kA, kB]; try rfl))
    refine xBb (hK _ _ ?_)
    clear hK K
    refine xBe (fun Q hQ => ?_)
    refine' tl_storeC (RK W2 B0 w0 ((Bn, Obj.cells [Value.int .i64 (n : Int)].toArray 3) :: (Bi, Obj.cells [Value.int .i64 ((i : Int) + 1)].toArray 3) :: (c, Obj.cells [Value.int .i64 (i : Int)].toArray 3) :: (M ++ wL p q g h n len cp a gb b8 b5 b4 b3 (xCd q n len P i nv)))) rfl rfl rfl rfl (fun w hw => ?hq) ?ha ?_
    case hq =>
     rw [hC] at hw
     exact hw.storeRow (P := Tryz.prog) (ty := 24) (off := i * 4) (vs := nl nv) (l' := xBy (xCd q n len P i nv) n) rfl rfl (show xBq ((Bn, Obj.cells [Value.int .i64 (n : Int)].toArray 3) :: (Bi, Obj.cells [Value.int .i64 ((i : Int) + 1)].toArray 3) :: (c, Obj.cells [Value.int .i64 (i : Int)].toArray 3) :: (M ++ wL p q g h n len cp a gb b8 b5 b4 b3 (xCd q n len P i cur))) gb _ _ ((Bn, Obj.cells [Value.int .i64 (n : Int)].toArray 3) :: (Bi, Obj.cells [Value.int .i64 ((i : Int) + 1)].toArray 3) :: (c, Obj.cells [Value.int .i64 (i : Int)].toArray 3) :: (M ++ wL p q g h n len cp a gb b8 b5 b4 b3 (xCd q n len P i nv))) from .tail (.tail (.tail (xBq.app (.tail .head) M)))) (by have := hin.out; rw [xBf]; omega) (xEn hin.out (hset.out cur nv))
    case ha => simp only [Act.put, kA, kB, List.setIfInBounds_toArray]; try rfl
    refine xBd (fun w hw => hQ _ _ ?_)
    clear hQ Q
    exact ⟨hw, trivial⟩
   case hdone =>
    clear hR
    intro D W2 hR
    have ek : ((i + 1 : Nat) : Int) = (i : Int) + 1 := by omega
    replace ek := Held.mk ek
    go_wp2_with (first | (refine' aAq hR ?_; clear hR; intro blk w hR) | (refine' aBq hR ?_; clear hR; intro blk w hR) | (refine' aPq hR ?_) | (refine' aQq hR ?_) | (refine' aRq hR ?_) | (refine' aZq hR ?_; clear hR; intro w hR) | (refine' aAr hR ?_; clear hR; intro w hR) | fail)
    refine hK.out (i + 1, D :: Ds) _ _ hi1.out hmu.out (by simp only [ek.out]; exact xAn rfl rfl rfl) ?_
    have er : xBy (xCd q n len P i (wdL q c0 i (othL n i n))) n = xBy (xCd q n len P (i + 1) 0) n := xBw fun j hj => by
     unfold xCd
     by_cases h2 : j = i
     ·subst h2
      rw [if_neg (Nat.lt_irrefl j), if_pos rfl, if_pos (Nat.lt_succ_self j), wdL_all n (Nat.le_refl n), xFg, ec0.out]
     ·by_cases h3 : j < i
      ·rw [if_pos h3, if_pos (by omega)]
      ·rw [if_neg h3, if_neg h2, if_neg (by omega)]
       split <;> rfl
    show Rep B0 w0 (xDb (D :: Ds) ++ (M ++ wL p q g h n len cp a gb b8 b5 b4 b3 (xCd q n len P (i + 1) 0))) W2
    unfold wL at hR ⊢
    rw [er] at hR
    exact hR.weaken (List.Sublist.append (List.Sublist.refl _) (.cons _ (.cons _ (.cons _ (List.Sublist.refl _)))))
end
end
section
attribute [local irreducible] Calls Instr.build Instr.buildSlice Instr.makeSlice
section
variable {B0 : Nat} {w0 w W : World} {L : List (Nat × Obj)} {p q g h n len cp : Nat} {a : Option Addr} {P : Nat → Nat}
instance zeroNumsD : xJh Tryz.prog 27 [.slice none 0 0] := ⟨.slice none 0 0, by kernel_rfl, rfl⟩
theorem word_bad (m : Int) (hbad : m < 1 ∨ 7 < m ∨ m ≤ (len : Int)) (hR : Rep B0 w0 L w) : Calls Tryz.prog 18 #[grp p q g h, .int .i64 m, .slice a len cp] w fun e w' => e = .returned (.tuple #[.slice none 0 0, .int .i64 1]) ∧ Rep B0 w0 L w' := by
 obtain ⟨W, hW⟩ : ∃ W, w = W := ⟨_, rfl⟩
 have key : Calls Tryz.prog 18 #[grp p q g h, .int .i64 m, .slice a len cp] W fun e w' => e = .returned (.tuple #[.slice none 0 0, .int .i64 1]) ∧ Below W.heap.size W w' := by
  clear hR hW
  have hR := Rep.init W
  by_cases c1 : m < 1
  ·have d1 : decide (m < 1) = true := decide_eq_true c1
   clear hbad
   go_enter Tryz.func18, Tryz.ntmps18
   go_wp2_with (first | go_skip | (refine' aAq hR ?_; clear hR; intro blk w hR) | (refine' aBq hR ?_; clear hR; intro blk w hR) | (refine' aPq hR ?_) | (refine' aQq hR ?_) | (refine' aRq hR ?_) | (refine' aZq hR ?_; clear hR; intro w hR) | (refine' aAr hR ?_; clear hR; intro w hR) | (refine' aEr hR ?_) | (refine' aFr hR ?_) | (refine' aHr hR ?_) | fail)
   go_ret2
   exact ⟨rfl, hR.below⟩
  have d1 : decide (m < 1) = false := decide_eq_false c1
  by_cases c2 : 7 < m
  ·have d2 : decide (7 < m) = true := decide_eq_true c2
   clear hbad
   go_enter Tryz.func18, Tryz.ntmps18
   go_wp2_with (first | go_skip | (refine' aAq hR ?_; clear hR; intro blk w hR) | (refine' aBq hR ?_; clear hR; intro blk w hR) | (refine' aPq hR ?_) | (refine' aQq hR ?_) | (refine' aRq hR ?_) | (refine' aZq hR ?_; clear hR; intro w hR) | (refine' aAr hR ?_; clear hR; intro w hR) | (refine' aEr hR ?_) | (refine' aFr hR ?_) | (refine' aHr hR ?_) | fail)
   go_ret2
   exact ⟨rfl, hR.below⟩
  have d2 : decide (7 < m) = false := decide_eq_false c2
  have c3 : m ≤ (len : Int) := by omega
  have d3 : decide (m ≤ (len : Int)) = true := decide_eq_true c3
  clear hbad
  go_enter Tryz.func18, Tryz.ntmps18
  go_wp2_with (first | go_skip | (refine' aAq hR ?_; clear hR; intro blk w hR) | (refine' aBq hR ?_; clear hR; intro blk w hR) | (refine' aPq hR ?_) | (refine' aQq hR ?_) | (refine' aRq hR ?_) | (refine' aZq hR ?_; clear hR; intro w hR) | (refine' aAr hR ?_; clear hR; intro w hR) | (refine' aEr hR ?_) | (refine' aFr hR ?_) | (refine' aHr hR ?_) | fail)
  go_ret2
  exact ⟨rfl, hR.below⟩
 rw [hW] at hR ⊢
 exact key.mono fun e w' ⟨h1, h2⟩ => ⟨h1, hR.call h2⟩
theorem word_go (hp : p < B) (hq : q < B) (h1 : 1 < q) (hA : NAt W.heap.size W [] a len cp P) (hP : ∀ j, j < len → P j < q) (hd : difOK q n) (hn1 : 1 ≤ n) (hn7 : n ≤ 7) (hl : len < n) :
  Calls Tryz.prog 18 #[grp p q g h, .int .i64 (n : Int), .slice a len cp] W fun e w' => ∃ gb, e = .returned (.tuple #[.slice (some ⟨gb, 0, none⟩) n n, .int .i64 0]) ∧ Rep W.heap.size W [(gb, .cells (xBy (xFg q n len P) n).toArray 24)] w' := by
 have hR := Rep.init W
 have hmf : ∀ (fn : Fn) (first cap : Array Value) (w : World), (Instr.makeFunc fn first cap).run Tryz.prog w = .ok (.func fn first cap) w := fun _ _ _ _ => rfl
 have d1 : decide ((n : Int) < 1) = false := decide_eq_false (by omega)
 have d1' : ¬ (n : Int) < 1 := by omega
 have d2 : decide (7 < (n : Int)) = false := decide_eq_false (by omega)
 have d2' : ¬ 7 < (n : Int) := by omega
 have d3 : decide ((n : Int) ≤ (len : Int)) = false := decide_eq_false (by omega)
 have d3' : ¬ (n : Int) ≤ (len : Int) := by omega
 have hnM : n ≤ 1000000 := by omega
 have cw := fun (gb b8 b5 b4 b3 : Nat) (M : List (Nat × Obj)) (w : World) (hM : ∀ x ∈ M, x.2.isCells = true) (hw : Rep W.heap.size W (M ++ wL p q g h n len cp a gb b8 b5 b4 b3 (fun _ => 0)) w) => word1_any hp hq h1 hA (by omega) hP hd (by omega) M hM hw
 clear hA hP hd
 go_enter Tryz.func18, Tryz.ntmps18
 go_wp2_with (first | go_skip | (refine' xBa (l := [.int .i64 (n : Int)]) hR rfl rfl rfl ?_; clear hR; intro blk w hR) | (refine' xBa (l := [.slice a len cp]) hR rfl rfl rfl ?_; clear hR; intro blk w hR) | (refine' aAq hR ?_; clear hR; intro blk w hR) | (refine' aBq hR ?_; clear hR; intro blk w hR) | (refine' aPq hR ?_) | (refine' aQq hR ?_) | (refine' aRq hR ?_) | (refine' aZq hR ?_; clear hR; intro w hR) | (refine' aAr hR ?_; clear hR; intro w hR) | (refine' aEr hR ?_) | (refine' aFr hR ?_) | (refine' aHr hR ?_) | (refine' xCk hR (xDl rfl rfl rfl rfl hnM) ?_; clear hR; intro blk w hR) | (go_at_call 100; refine (stopped_word [_, _, _, _] (fun M w hM hw => cw _ _ _ _ _ M w hM hw) hR).mono ?_; clear hR; rintro e w ⟨rfl, hR⟩; unfold wL at hR))
 go_ret2
 exact ⟨_, rfl, hR.weaken (.cons _ (.cons_cons _ (List.nil_sublist _)))⟩
theorem word_yes (hp : p < B) (hq : q < B) (h1 : 1 < q) (hA : NAt B0 w0 L a len cp P) (hP : ∀ j, j < len → P j < q) (hd : difOK q n) (hn1 : 1 ≤ n) (hn7 : n ≤ 7) (hl : len < n) (hR : Rep B0 w0 L w) :
  Calls Tryz.prog 18 #[grp p q g h, .int .i64 (n : Int), .slice a len cp] w fun e w' => ∃ gb, e = .returned (.tuple #[.slice (some ⟨gb, 0, none⟩) n n, .int .i64 0]) ∧ Rep B0 w0 ((gb, .cells (xBy (xFg q n len P) n).toArray 24) :: L) w' :=
 (word_go (g := g) (h := h) hp hq h1 (hA.here hR) hP hd hn1 hn7 hl).mono fun e w' ⟨gb, h1, h2⟩ => ⟨gb, h1, hR.join h2⟩
end
end
end Go.Proofs.YtaaahfjpnggkbaaGreatDoor
