import Derived.Test.YtaaahfjpnggkbaaGreatDoorZM
import Derived.Test.YtaaahfjpnggkbaaGreatDoorZZ
import Derived.Test.YtaaahfjpnggkbaaGreatDoorZR
import Derived.Test.YtaaahfjpnggkbaaGreatDoorZE
set_option linter.unusedSimpArgs false
set_option linter.unusedVariables false
set_option maxRecDepth 100000
set_option maxHeartbeats 20000000
namespace Go.Proofs.YtaaahfjpnggkbaaGreatDoor
open Go.RowKit
section
attribute [local irreducible] Calls Instr.build Instr.buildSlice
instance cellHeldByte : xDt Tryz.prog 39 := .mk' (by kernel_rfl) (by kernel_rfl)
instance cellHeldInt : xDt Tryz.prog 40 := .mk' (by kernel_rfl) (by kernel_rfl)
instance cellHeldText : xDt Tryz.prog 41 := .mk' (by kernel_rfl) (by kernel_rfl)
instance cellHeldNum : xDt Tryz.prog 42 := .mk' (by kernel_rfl) (by kernel_rfl)
instance cellHeldHash : xDt Tryz.prog 43 := .mk' (by kernel_rfl) (by kernel_rfl)
instance cellHeldReason : xDt Tryz.prog 44 := .mk' (by kernel_rfl) (by kernel_rfl)
instance cellHeldKey : xDt Tryz.prog 45 := .mk' (by kernel_rfl) (by kernel_rfl)
instance cellHeldProof : xDt Tryz.prog 46 := .mk' (by kernel_rfl) (by kernel_rfl)
instance cellHeldDealing : xDt Tryz.prog 47 := .mk' (by kernel_rfl) (by kernel_rfl)
instance cellHeldOpened : xDt Tryz.prog 48 := .mk' (by kernel_rfl) (by kernel_rfl)
instance cellHeldShown : xDt Tryz.prog 49 := .mk' (by kernel_rfl) (by kernel_rfl)
instance cellHeldVote : xDt Tryz.prog 50 := .mk' (by kernel_rfl) (by kernel_rfl)
instance cellHeldBlock : xDt Tryz.prog 51 := .mk' (by kernel_rfl) (by kernel_rfl)
instance cellHeldEvidence : xDt Tryz.prog 52 := .mk' (by kernel_rfl) (by kernel_rfl)
instance cellHeldMsg : xDt Tryz.prog 53 := .mk' (by kernel_rfl) (by kernel_rfl)
instance cellHeldFrame : xDt Tryz.prog 54 := .mk' (by kernel_rfl) (by kernel_rfl)
instance cellHeldRecord : xDt Tryz.prog 55 := .mk' (by kernel_rfl) (by kernel_rfl)
section
variable {B0 : Nat} {w0 w : World} {L : List (Nat × Obj)} {bb : Nat} {bk : List Value}
theorem fill_Byte (hm : (bb, Obj.cells bk.toArray 57) ∈ L) (ht : bk[1]? = some (.slice none 0 0)) (hR : Rep B0 w0 L w) : Calls Tryz.prog 49 #[.pointer (some ⟨bb, 0, none⟩)] w fun e w' => e = .returned (.tuple #[]) ∧ Rep B0 w0 L w' := by
 have t0 : ((0 : Int) < 0) = False := by simp
 go_enter Tryz.func49, Tryz.ntmps49
 go_wp2_with (first | (refine' xAa hR rfl rfl rfl inferInstance hm ht ?_))
 refine wp_loop_rounds 1 ?_
 rw [rounds_succ]
 go_wp2_with (first | (refine' xAa hR rfl rfl rfl inferInstance hm ht ?_))
 go_end0
 exact ⟨rfl, hR⟩
theorem grow_Byte (hm : (bb, Obj.cells bk.toArray 57) ∈ L) (ht : bk[1]? = some (.slice none 0 0)) (hR : Rep B0 w0 L w) : Calls Tryz.prog 66 #[.pointer (some ⟨bb, 0, none⟩)] w fun e w' => e = .returned (.tuple #[]) ∧ Rep B0 w0 L w' := by
 have t0 : ((0 : Int) < 0) = False := by simp
 go_enter Tryz.func66, Tryz.ntmps66
 go_wp2_with (first | (refine' xAa hR rfl rfl rfl inferInstance hm ht ?_))
 refine wp_loop_rounds 1 ?_
 rw [rounds_succ]
 go_wp2_with (first | (refine' xAa hR rfl rfl rfl inferInstance hm ht ?_))
 go_end0
 exact ⟨rfl, hR⟩
theorem look_Byte (hm : (bb, Obj.cells bk.toArray 57) ∈ L) (ht : bk[1]? = some (.slice none 0 0)) (hR : Rep B0 w0 L w) : Calls Tryz.prog 83 #[.pointer (some ⟨bb, 0, none⟩)] w fun e w' => e = .returned (.bool true) ∧ Rep B0 w0 L w' := by
 have t0 : ((0 : Int) < 0) = False := by simp
 go_enter Tryz.func83, Tryz.ntmps83
 go_wp2_with (first | (refine' xAa hR rfl rfl rfl inferInstance hm ht ?_))
 refine wp_loop_rounds 1 ?_
 rw [rounds_succ]
 go_wp2_with (first | (refine' xAa hR rfl rfl rfl inferInstance hm ht ?_))
 go_ret
 exact ⟨rfl, hR⟩
theorem fill_Int (hm : (bb, Obj.cells bk.toArray 57) ∈ L) (ht : bk[2]? = some (.slice none 0 0)) (hR : Rep B0 w0 L w) : Calls Tryz.prog 50 #[.pointer (some ⟨bb, 0, none⟩)] w fun e w' => e = .returned (.tuple #[]) ∧ Rep B0 w0 L w' := by
 have t0 : ((0 : Int) < 0) = False := by simp
 go_enter Tryz.func50, Tryz.ntmps50
 go_wp2_with (first | (refine' xAa hR rfl rfl rfl inferInstance hm ht ?_))
 refine wp_loop_rounds 1 ?_
 rw [rounds_succ]
 go_wp2_with (first | (refine' xAa hR rfl rfl rfl inferInstance hm ht ?_))
 go_end0
 exact ⟨rfl, hR⟩
theorem grow_Int (hm : (bb, Obj.cells bk.toArray 57) ∈ L) (ht : bk[2]? = some (.slice none 0 0)) (hR : Rep B0 w0 L w) : Calls Tryz.prog 67 #[.pointer (some ⟨bb, 0, none⟩)] w fun e w' => e = .returned (.tuple #[]) ∧ Rep B0 w0 L w' := by
 have t0 : ((0 : Int) < 0) = False := by simp
 go_enter Tryz.func67, Tryz.ntmps67
 go_wp2_with (first | (refine' xAa hR rfl rfl rfl inferInstance hm ht ?_))
 refine wp_loop_rounds 1 ?_
 rw [rounds_succ]
 go_wp2_with (first | (refine' xAa hR rfl rfl rfl inferInstance hm ht ?_))
 go_end0
 exact ⟨rfl, hR⟩
theorem look_Int (hm : (bb, Obj.cells bk.toArray 57) ∈ L) (ht : bk[2]? = some (.slice none 0 0)) (hR : Rep B0 w0 L w) : Calls Tryz.prog 84 #[.pointer (some ⟨bb, 0, none⟩)] w fun e w' => e = .returned (.bool true) ∧ Rep B0 w0 L w' := by
 have t0 : ((0 : Int) < 0) = False := by simp
 go_enter Tryz.func84, Tryz.ntmps84
 go_wp2_with (first | (refine' xAa hR rfl rfl rfl inferInstance hm ht ?_))
 refine wp_loop_rounds 1 ?_
 rw [rounds_succ]
 go_wp2_with (first | (refine' xAa hR rfl rfl rfl inferInstance hm ht ?_))
 go_ret
 exact ⟨rfl, hR⟩
theorem fill_Text (hm : (bb, Obj.cells bk.toArray 57) ∈ L) (ht : bk[3]? = some (.slice none 0 0)) (hR : Rep B0 w0 L w) : Calls Tryz.prog 51 #[.pointer (some ⟨bb, 0, none⟩)] w fun e w' => e = .returned (.tuple #[]) ∧ Rep B0 w0 L w' := by
 have t0 : ((0 : Int) < 0) = False := by simp
 go_enter Tryz.func51, Tryz.ntmps51
 go_wp2_with (first | (refine' xAa hR rfl rfl rfl inferInstance hm ht ?_))
 refine wp_loop_rounds 1 ?_
 rw [rounds_succ]
 go_wp2_with (first | (refine' xAa hR rfl rfl rfl inferInstance hm ht ?_))
 go_end0
 exact ⟨rfl, hR⟩
theorem grow_Text (hm : (bb, Obj.cells bk.toArray 57) ∈ L) (ht : bk[3]? = some (.slice none 0 0)) (hR : Rep B0 w0 L w) : Calls Tryz.prog 68 #[.pointer (some ⟨bb, 0, none⟩)] w fun e w' => e = .returned (.tuple #[]) ∧ Rep B0 w0 L w' := by
 have t0 : ((0 : Int) < 0) = False := by simp
 go_enter Tryz.func68, Tryz.ntmps68
 go_wp2_with (first | (refine' xAa hR rfl rfl rfl inferInstance hm ht ?_))
 refine wp_loop_rounds 1 ?_
 rw [rounds_succ]
 go_wp2_with (first | (refine' xAa hR rfl rfl rfl inferInstance hm ht ?_))
 go_end0
 exact ⟨rfl, hR⟩
theorem look_Text (hm : (bb, Obj.cells bk.toArray 57) ∈ L) (ht : bk[3]? = some (.slice none 0 0)) (hR : Rep B0 w0 L w) : Calls Tryz.prog 85 #[.pointer (some ⟨bb, 0, none⟩)] w fun e w' => e = .returned (.bool true) ∧ Rep B0 w0 L w' := by
 have t0 : ((0 : Int) < 0) = False := by simp
 go_enter Tryz.func85, Tryz.ntmps85
 go_wp2_with (first | (refine' xAa hR rfl rfl rfl inferInstance hm ht ?_))
 refine wp_loop_rounds 1 ?_
 rw [rounds_succ]
 go_wp2_with (first | (refine' xAa hR rfl rfl rfl inferInstance hm ht ?_))
 go_ret
 exact ⟨rfl, hR⟩
theorem fill_Hash (hm : (bb, Obj.cells bk.toArray 57) ∈ L) (ht : bk[5]? = some (.slice none 0 0)) (hR : Rep B0 w0 L w) : Calls Tryz.prog 53 #[.pointer (some ⟨bb, 0, none⟩)] w fun e w' => e = .returned (.tuple #[]) ∧ Rep B0 w0 L w' := by
 have t0 : ((0 : Int) < 0) = False := by simp
 go_enter Tryz.func53, Tryz.ntmps53
 go_wp2_with (first | (refine' xAa hR rfl rfl rfl inferInstance hm ht ?_))
 refine wp_loop_rounds 1 ?_
 rw [rounds_succ]
 go_wp2_with (first | (refine' xAa hR rfl rfl rfl inferInstance hm ht ?_))
 go_end0
 exact ⟨rfl, hR⟩
theorem grow_Hash (hm : (bb, Obj.cells bk.toArray 57) ∈ L) (ht : bk[5]? = some (.slice none 0 0)) (hR : Rep B0 w0 L w) : Calls Tryz.prog 70 #[.pointer (some ⟨bb, 0, none⟩)] w fun e w' => e = .returned (.tuple #[]) ∧ Rep B0 w0 L w' := by
 have t0 : ((0 : Int) < 0) = False := by simp
 go_enter Tryz.func70, Tryz.ntmps70
 go_wp2_with (first | (refine' xAa hR rfl rfl rfl inferInstance hm ht ?_))
 refine wp_loop_rounds 1 ?_
 rw [rounds_succ]
 go_wp2_with (first | (refine' xAa hR rfl rfl rfl inferInstance hm ht ?_))
 go_end0
 exact ⟨rfl, hR⟩
theorem look_Hash (hm : (bb, Obj.cells bk.toArray 57) ∈ L) (ht : bk[5]? = some (.slice none 0 0)) (hR : Rep B0 w0 L w) : Calls Tryz.prog 87 #[.pointer (some ⟨bb, 0, none⟩)] w fun e w' => e = .returned (.bool true) ∧ Rep B0 w0 L w' := by
 have t0 : ((0 : Int) < 0) = False := by simp
 go_enter Tryz.func87, Tryz.ntmps87
 go_wp2_with (first | (refine' xAa hR rfl rfl rfl inferInstance hm ht ?_))
 refine wp_loop_rounds 1 ?_
 rw [rounds_succ]
 go_wp2_with (first | (refine' xAa hR rfl rfl rfl inferInstance hm ht ?_))
 go_ret
 exact ⟨rfl, hR⟩
theorem fill_Reason (hm : (bb, Obj.cells bk.toArray 57) ∈ L) (ht : bk[6]? = some (.slice none 0 0)) (hR : Rep B0 w0 L w) : Calls Tryz.prog 54 #[.pointer (some ⟨bb, 0, none⟩)] w fun e w' => e = .returned (.tuple #[]) ∧ Rep B0 w0 L w' := by
 have t0 : ((0 : Int) < 0) = False := by simp
 go_enter Tryz.func54, Tryz.ntmps54
 go_wp2_with (first | (refine' xAa hR rfl rfl rfl inferInstance hm ht ?_))
 refine wp_loop_rounds 1 ?_
 rw [rounds_succ]
 go_wp2_with (first | (refine' xAa hR rfl rfl rfl inferInstance hm ht ?_))
 go_end0
 exact ⟨rfl, hR⟩
theorem grow_Reason (hm : (bb, Obj.cells bk.toArray 57) ∈ L) (ht : bk[6]? = some (.slice none 0 0)) (hR : Rep B0 w0 L w) : Calls Tryz.prog 71 #[.pointer (some ⟨bb, 0, none⟩)] w fun e w' => e = .returned (.tuple #[]) ∧ Rep B0 w0 L w' := by
 have t0 : ((0 : Int) < 0) = False := by simp
 go_enter Tryz.func71, Tryz.ntmps71
 go_wp2_with (first | (refine' xAa hR rfl rfl rfl inferInstance hm ht ?_))
 refine wp_loop_rounds 1 ?_
 rw [rounds_succ]
 go_wp2_with (first | (refine' xAa hR rfl rfl rfl inferInstance hm ht ?_))
 go_end0
 exact ⟨rfl, hR⟩
theorem look_Reason (hm : (bb, Obj.cells bk.toArray 57) ∈ L) (ht : bk[6]? = some (.slice none 0 0)) (hR : Rep B0 w0 L w) : Calls Tryz.prog 88 #[.pointer (some ⟨bb, 0, none⟩)] w fun e w' => e = .returned (.bool true) ∧ Rep B0 w0 L w' := by
 have t0 : ((0 : Int) < 0) = False := by simp
 go_enter Tryz.func88, Tryz.ntmps88
 go_wp2_with (first | (refine' xAa hR rfl rfl rfl inferInstance hm ht ?_))
 refine wp_loop_rounds 1 ?_
 rw [rounds_succ]
 go_wp2_with (first | (refine' xAa hR rfl rfl rfl inferInstance hm ht ?_))
 go_ret
 exact ⟨rfl, hR⟩
theorem fill_Key (hm : (bb, Obj.cells bk.toArray 57) ∈ L) (ht : bk[7]? = some (.slice none 0 0)) (hR : Rep B0 w0 L w) : Calls Tryz.prog 55 #[.pointer (some ⟨bb, 0, none⟩)] w fun e w' => e = .returned (.tuple #[]) ∧ Rep B0 w0 L w' := by
 have t0 : ((0 : Int) < 0) = False := by simp
 go_enter Tryz.func55, Tryz.ntmps55
 go_wp2_with (first | (refine' xAa hR rfl rfl rfl inferInstance hm ht ?_))
 refine wp_loop_rounds 1 ?_
 rw [rounds_succ]
 go_wp2_with (first | (refine' xAa hR rfl rfl rfl inferInstance hm ht ?_))
 go_end0
 exact ⟨rfl, hR⟩
theorem grow_Key (hm : (bb, Obj.cells bk.toArray 57) ∈ L) (ht : bk[7]? = some (.slice none 0 0)) (hR : Rep B0 w0 L w) : Calls Tryz.prog 72 #[.pointer (some ⟨bb, 0, none⟩)] w fun e w' => e = .returned (.tuple #[]) ∧ Rep B0 w0 L w' := by
 have t0 : ((0 : Int) < 0) = False := by simp
 go_enter Tryz.func72, Tryz.ntmps72
 go_wp2_with (first | (refine' xAa hR rfl rfl rfl inferInstance hm ht ?_))
 refine wp_loop_rounds 1 ?_
 rw [rounds_succ]
 go_wp2_with (first | (refine' xAa hR rfl rfl rfl inferInstance hm ht ?_))
 go_end0
 exact ⟨rfl, hR⟩
theorem look_Key (hm : (bb, Obj.cells bk.toArray 57) ∈ L) (ht : bk[7]? = some (.slice none 0 0)) (hR : Rep B0 w0 L w) : Calls Tryz.prog 89 #[.pointer (some ⟨bb, 0, none⟩)] w fun e w' => e = .returned (.bool true) ∧ Rep B0 w0 L w' := by
 have t0 : ((0 : Int) < 0) = False := by simp
 go_enter Tryz.func89, Tryz.ntmps89
 go_wp2_with (first | (refine' xAa hR rfl rfl rfl inferInstance hm ht ?_))
 refine wp_loop_rounds 1 ?_
 rw [rounds_succ]
 go_wp2_with (first | (refine' xAa hR rfl rfl rfl inferInstance hm ht ?_))
 go_ret
 exact ⟨rfl, hR⟩
theorem fill_Proof (hm : (bb, Obj.cells bk.toArray 57) ∈ L) (ht : bk[8]? = some (.slice none 0 0)) (hR : Rep B0 w0 L w) : Calls Tryz.prog 56 #[.pointer (some ⟨bb, 0, none⟩)] w fun e w' => e = .returned (.tuple #[]) ∧ Rep B0 w0 L w' := by
 have t0 : ((0 : Int) < 0) = False := by simp
 go_enter Tryz.func56, Tryz.ntmps56
 go_wp2_with (first | (refine' xAa hR rfl rfl rfl inferInstance hm ht ?_))
 refine wp_loop_rounds 1 ?_
 rw [rounds_succ]
 go_wp2_with (first | (refine' xAa hR rfl rfl rfl inferInstance hm ht ?_))
 go_end0
 exact ⟨rfl, hR⟩
theorem grow_Proof (hm : (bb, Obj.cells bk.toArray 57) ∈ L) (ht : bk[8]? = some (.slice none 0 0)) (hR : Rep B0 w0 L w) : Calls Tryz.prog 73 #[.pointer (some ⟨bb, 0, none⟩)] w fun e w' => e = .returned (.tuple #[]) ∧ Rep B0 w0 L w' := by
 have t0 : ((0 : Int) < 0) = False := by simp
 go_enter Tryz.func73, Tryz.ntmps73
 go_wp2_with (first | (refine' xAa hR rfl rfl rfl inferInstance hm ht ?_))
 refine wp_loop_rounds 1 ?_
 rw [rounds_succ]
 go_wp2_with (first | (refine' xAa hR rfl rfl rfl inferInstance hm ht ?_))
 go_end0
 exact ⟨rfl, hR⟩
theorem look_Proof (hm : (bb, Obj.cells bk.toArray 57) ∈ L) (ht : bk[8]? = some (.slice none 0 0)) (hR : Rep B0 w0 L w) : Calls Tryz.prog 90 #[.pointer (some ⟨bb, 0, none⟩)] w fun e w' => e = .returned (.bool true) ∧ Rep B0 w0 L w' := by
 have t0 : ((0 : Int) < 0) = False := by simp
 go_enter Tryz.func90, Tryz.ntmps90
 go_wp2_with (first | (refine' xAa hR rfl rfl rfl inferInstance hm ht ?_))
 refine wp_loop_rounds 1 ?_
 rw [rounds_succ]
 go_wp2_with (first | (refine' xAa hR rfl rfl rfl inferInstance hm ht ?_))
 go_ret
 exact ⟨rfl, hR⟩
theorem fill_Dealing (hm : (bb, Obj.cells bk.toArray 57) ∈ L) (ht : bk[9]? = some (.slice none 0 0)) (hR : Rep B0 w0 L w) : Calls Tryz.prog 57 #[.pointer (some ⟨bb, 0, none⟩)] w fun e w' => e = .returned (.tuple #[]) ∧ Rep B0 w0 L w' := by
 have t0 : ((0 : Int) < 0) = False := by simp
 go_enter Tryz.func57, Tryz.ntmps57
 go_wp2_with (first | (refine' xAa hR rfl rfl rfl inferInstance hm ht ?_))
 refine wp_loop_rounds 1 ?_
 rw [rounds_succ]
 go_wp2_with (first | (refine' xAa hR rfl rfl rfl inferInstance hm ht ?_))
 go_end0
 exact ⟨rfl, hR⟩
theorem grow_Dealing (hm : (bb, Obj.cells bk.toArray 57) ∈ L) (ht : bk[9]? = some (.slice none 0 0)) (hR : Rep B0 w0 L w) : Calls Tryz.prog 74 #[.pointer (some ⟨bb, 0, none⟩)] w fun e w' => e = .returned (.tuple #[]) ∧ Rep B0 w0 L w' := by
 have t0 : ((0 : Int) < 0) = False := by simp
 go_enter Tryz.func74, Tryz.ntmps74
 go_wp2_with (first | (refine' xAa hR rfl rfl rfl inferInstance hm ht ?_))
 refine wp_loop_rounds 1 ?_
 rw [rounds_succ]
 go_wp2_with (first | (refine' xAa hR rfl rfl rfl inferInstance hm ht ?_))
 go_end0
 exact ⟨rfl, hR⟩
theorem look_Dealing (hm : (bb, Obj.cells bk.toArray 57) ∈ L) (ht : bk[9]? = some (.slice none 0 0)) (hR : Rep B0 w0 L w) : Calls Tryz.prog 91 #[.pointer (some ⟨bb, 0, none⟩)] w fun e w' => e = .returned (.bool true) ∧ Rep B0 w0 L w' := by
 have t0 : ((0 : Int) < 0) = False := by simp
 go_enter Tryz.func91, Tryz.ntmps91
 go_wp2_with (first | (refine' xAa hR rfl rfl rfl inferInstance hm ht ?_))
 refine wp_loop_rounds 1 ?_
 rw [rounds_succ]
 go_wp2_with (first | (refine' xAa hR rfl rfl rfl inferInstance hm ht ?_))
 go_ret
 exact ⟨rfl, hR⟩
theorem fill_Opened (hm : (bb, Obj.cells bk.toArray 57) ∈ L) (ht : bk[10]? = some (.slice none 0 0)) (hR : Rep B0 w0 L w) : Calls Tryz.prog 58 #[.pointer (some ⟨bb, 0, none⟩)] w fun e w' => e = .returned (.tuple #[]) ∧ Rep B0 w0 L w' := by
 have t0 : ((0 : Int) < 0) = False := by simp
 go_enter Tryz.func58, Tryz.ntmps58
 go_wp2_with (first | (refine' xAa hR rfl rfl rfl inferInstance hm ht ?_))
 refine wp_loop_rounds 1 ?_
 rw [rounds_succ]
 go_wp2_with (first | (refine' xAa hR rfl rfl rfl inferInstance hm ht ?_))
 go_end0
 exact ⟨rfl, hR⟩
theorem grow_Opened (hm : (bb, Obj.cells bk.toArray 57) ∈ L) (ht : bk[10]? = some (.slice none 0 0)) (hR : Rep B0 w0 L w) : Calls Tryz.prog 75 #[.pointer (some ⟨bb, 0, none⟩)] w fun e w' => e = .returned (.tuple #[]) ∧ Rep B0 w0 L w' := by
 have t0 : ((0 : Int) < 0) = False := by simp
 go_enter Tryz.func75, Tryz.ntmps75
 go_wp2_with (first | (refine' xAa hR rfl rfl rfl inferInstance hm ht ?_))
 refine wp_loop_rounds 1 ?_
 rw [rounds_succ]
 go_wp2_with (first | (refine' xAa hR rfl rfl rfl inferInstance hm ht ?_))
 go_end0
 exact ⟨rfl, hR⟩
theorem look_Opened (hm : (bb, Obj.cells bk.toArray 57) ∈ L) (ht : bk[10]? = some (.slice none 0 0)) (hR : Rep B0 w0 L w) : Calls Tryz.prog 92 #[.pointer (some ⟨bb, 0, none⟩)] w fun e w' => e = .returned (.bool true) ∧ Rep B0 w0 L w' := by
 have t0 : ((0 : Int) < 0) = False := by simp
 go_enter Tryz.func92, Tryz.ntmps92
 go_wp2_with (first | (refine' xAa hR rfl rfl rfl inferInstance hm ht ?_))
 refine wp_loop_rounds 1 ?_
 rw [rounds_succ]
 go_wp2_with (first | (refine' xAa hR rfl rfl rfl inferInstance hm ht ?_))
 go_ret
 exact ⟨rfl, hR⟩
theorem fill_Shown (hm : (bb, Obj.cells bk.toArray 57) ∈ L) (ht : bk[11]? = some (.slice none 0 0)) (hR : Rep B0 w0 L w) : Calls Tryz.prog 59 #[.pointer (some ⟨bb, 0, none⟩)] w fun e w' => e = .returned (.tuple #[]) ∧ Rep B0 w0 L w' := by
 have t0 : ((0 : Int) < 0) = False := by simp
 go_enter Tryz.func59, Tryz.ntmps59
 go_wp2_with (first | (refine' xAa hR rfl rfl rfl inferInstance hm ht ?_))
 refine wp_loop_rounds 1 ?_
 rw [rounds_succ]
 go_wp2_with (first | (refine' xAa hR rfl rfl rfl inferInstance hm ht ?_))
 go_end0
 exact ⟨rfl, hR⟩
theorem grow_Shown (hm : (bb, Obj.cells bk.toArray 57) ∈ L) (ht : bk[11]? = some (.slice none 0 0)) (hR : Rep B0 w0 L w) : Calls Tryz.prog 76 #[.pointer (some ⟨bb, 0, none⟩)] w fun e w' => e = .returned (.tuple #[]) ∧ Rep B0 w0 L w' := by
 have t0 : ((0 : Int) < 0) = False := by simp
 go_enter Tryz.func76, Tryz.ntmps76
 go_wp2_with (first | (refine' xAa hR rfl rfl rfl inferInstance hm ht ?_))
 refine wp_loop_rounds 1 ?_
 rw [rounds_succ]
 go_wp2_with (first | (refine' xAa hR rfl rfl rfl inferInstance hm ht ?_))
 go_end0
 exact ⟨rfl, hR⟩
theorem look_Shown (hm : (bb, Obj.cells bk.toArray 57) ∈ L) (ht : bk[11]? = some (.slice none 0 0)) (hR : Rep B0 w0 L w) : Calls Tryz.prog 93 #[.pointer (some ⟨bb, 0, none⟩)] w fun e w' => e = .returned (.bool true) ∧ Rep B0 w0 L w' := by
 have t0 : ((0 : Int) < 0) = False := by simp
 go_enter Tryz.func93, Tryz.ntmps93
 go_wp2_with (first | (refine' xAa hR rfl rfl rfl inferInstance hm ht ?_))
 refine wp_loop_rounds 1 ?_
 rw [rounds_succ]
 go_wp2_with (first | (refine' xAa hR rfl rfl rfl inferInstance hm ht ?_))
 go_ret
 exact ⟨rfl, hR⟩
theorem fill_Vote (hm : (bb, Obj.cells bk.toArray 57) ∈ L) (ht : bk[12]? = some (.slice none 0 0)) (hR : Rep B0 w0 L w) : Calls Tryz.prog 60 #[.pointer (some ⟨bb, 0, none⟩)] w fun e w' => e = .returned (.tuple #[]) ∧ Rep B0 w0 L w' := by
 have t0 : ((0 : Int) < 0) = False := by simp
 go_enter Tryz.func60, Tryz.ntmps60
 go_wp2_with (first | (refine' xAa hR rfl rfl rfl inferInstance hm ht ?_))
 refine wp_loop_rounds 1 ?_
 rw [rounds_succ]
 go_wp2_with (first | (refine' xAa hR rfl rfl rfl inferInstance hm ht ?_))
 go_end0
 exact ⟨rfl, hR⟩
theorem grow_Vote (hm : (bb, Obj.cells bk.toArray 57) ∈ L) (ht : bk[12]? = some (.slice none 0 0)) (hR : Rep B0 w0 L w) : Calls Tryz.prog 77 #[.pointer (some ⟨bb, 0, none⟩)] w fun e w' => e = .returned (.tuple #[]) ∧ Rep B0 w0 L w' := by
 have t0 : ((0 : Int) < 0) = False := by simp
 go_enter Tryz.func77, Tryz.ntmps77
 go_wp2_with (first | (refine' xAa hR rfl rfl rfl inferInstance hm ht ?_))
 refine wp_loop_rounds 1 ?_
 rw [rounds_succ]
 go_wp2_with (first | (refine' xAa hR rfl rfl rfl inferInstance hm ht ?_))
 go_end0
 exact ⟨rfl, hR⟩
theorem look_Vote (hm : (bb, Obj.cells bk.toArray 57) ∈ L) (ht : bk[12]? = some (.slice none 0 0)) (hR : Rep B0 w0 L w) : Calls Tryz.prog 94 #[.pointer (some ⟨bb, 0, none⟩)] w fun e w' => e = .returned (.bool true) ∧ Rep B0 w0 L w' := by
 have t0 : ((0 : Int) < 0) = False := by simp
 go_enter Tryz.func94, Tryz.ntmps94
 go_wp2_with (first | (refine' xAa hR rfl rfl rfl inferInstance hm ht ?_))
 refine wp_loop_rounds 1 ?_
 rw [rounds_succ]
 go_wp2_with (first | (refine' xAa hR rfl rfl rfl inferInstance hm ht ?_))
 go_ret
 exact ⟨rfl, hR⟩
theorem fill_Block (hm : (bb, Obj.cells bk.toArray 57) ∈ L) (ht : bk[13]? = some (.slice none 0 0)) (hR : Rep B0 w0 L w) : Calls Tryz.prog 61 #[.pointer (some ⟨bb, 0, none⟩)] w fun e w' => e = .returned (.tuple #[]) ∧ Rep B0 w0 L w' := by
 have t0 : ((0 : Int) < 0) = False := by simp
 go_enter Tryz.func61, Tryz.ntmps61
 go_wp2_with (first | (refine' xAa hR rfl rfl rfl inferInstance hm ht ?_))
 refine wp_loop_rounds 1 ?_
 rw [rounds_succ]
 go_wp2_with (first | (refine' xAa hR rfl rfl rfl inferInstance hm ht ?_))
 go_end0
 exact ⟨rfl, hR⟩
theorem grow_Block (hm : (bb, Obj.cells bk.toArray 57) ∈ L) (ht : bk[13]? = some (.slice none 0 0)) (hR : Rep B0 w0 L w) : Calls Tryz.prog 78 #[.pointer (some ⟨bb, 0, none⟩)] w fun e w' => e = .returned (.tuple #[]) ∧ Rep B0 w0 L w' := by
 have t0 : ((0 : Int) < 0) = False := by simp
 go_enter Tryz.func78, Tryz.ntmps78
 go_wp2_with (first | (refine' xAa hR rfl rfl rfl inferInstance hm ht ?_))
 refine wp_loop_rounds 1 ?_
 rw [rounds_succ]
 go_wp2_with (first | (refine' xAa hR rfl rfl rfl inferInstance hm ht ?_))
 go_end0
 exact ⟨rfl, hR⟩
theorem look_Block (hm : (bb, Obj.cells bk.toArray 57) ∈ L) (ht : bk[13]? = some (.slice none 0 0)) (hR : Rep B0 w0 L w) : Calls Tryz.prog 95 #[.pointer (some ⟨bb, 0, none⟩)] w fun e w' => e = .returned (.bool true) ∧ Rep B0 w0 L w' := by
 have t0 : ((0 : Int) < 0) = False := by simp
 go_enter Tryz.func95, Tryz.ntmps95
 go_wp2_with (first | (refine' xAa hR rfl rfl rfl inferInstance hm ht ?_))
 refine wp_loop_rounds 1 ?_
 rw [rounds_succ]
 go_wp2_with (first | (refine' xAa hR rfl rfl rfl inferInstance hm ht ?_))
 go_ret
 exact ⟨rfl, hR⟩
theorem fill_Evidence (hm : (bb, Obj.cells bk.toArray 57) ∈ L) (ht : bk[14]? = some (.slice none 0 0)) (hR : Rep B0 w0 L w) : Calls Tryz.prog 62 #[.pointer (some ⟨bb, 0, none⟩)] w fun e w' => e = .returned (.tuple #[]) ∧ Rep B0 w0 L w' := by
 have t0 : ((0 : Int) < 0) = False := by simp
 go_enter Tryz.func62, Tryz.ntmps62
 go_wp2_with (first | (refine' xAa hR rfl rfl rfl inferInstance hm ht ?_))
 refine wp_loop_rounds 1 ?_
 rw [rounds_succ]
 go_wp2_with (first | (refine' xAa hR rfl rfl rfl inferInstance hm ht ?_))
 go_end0
 exact ⟨rfl, hR⟩
theorem grow_Evidence (hm : (bb, Obj.cells bk.toArray 57) ∈ L) (ht : bk[14]? = some (.slice none 0 0)) (hR : Rep B0 w0 L w) : Calls Tryz.prog 79 #[.pointer (some ⟨bb, 0, none⟩)] w fun e w' => e = .returned (.tuple #[]) ∧ Rep B0 w0 L w' := by
 have t0 : ((0 : Int) < 0) = False := by simp
 go_enter Tryz.func79, Tryz.ntmps79
 go_wp2_with (first | (refine' xAa hR rfl rfl rfl inferInstance hm ht ?_))
 refine wp_loop_rounds 1 ?_
 rw [rounds_succ]
 go_wp2_with (first | (refine' xAa hR rfl rfl rfl inferInstance hm ht ?_))
 go_end0
 exact ⟨rfl, hR⟩
theorem look_Evidence (hm : (bb, Obj.cells bk.toArray 57) ∈ L) (ht : bk[14]? = some (.slice none 0 0)) (hR : Rep B0 w0 L w) : Calls Tryz.prog 96 #[.pointer (some ⟨bb, 0, none⟩)] w fun e w' => e = .returned (.bool true) ∧ Rep B0 w0 L w' := by
 have t0 : ((0 : Int) < 0) = False := by simp
 go_enter Tryz.func96, Tryz.ntmps96
 go_wp2_with (first | (refine' xAa hR rfl rfl rfl inferInstance hm ht ?_))
 refine wp_loop_rounds 1 ?_
 rw [rounds_succ]
 go_wp2_with (first | (refine' xAa hR rfl rfl rfl inferInstance hm ht ?_))
 go_ret
 exact ⟨rfl, hR⟩
theorem fill_Msg (hm : (bb, Obj.cells bk.toArray 57) ∈ L) (ht : bk[15]? = some (.slice none 0 0)) (hR : Rep B0 w0 L w) : Calls Tryz.prog 63 #[.pointer (some ⟨bb, 0, none⟩)] w fun e w' => e = .returned (.tuple #[]) ∧ Rep B0 w0 L w' := by
 have t0 : ((0 : Int) < 0) = False := by simp
 go_enter Tryz.func63, Tryz.ntmps63
 go_wp2_with (first | (refine' xAa hR rfl rfl rfl inferInstance hm ht ?_))
 refine wp_loop_rounds 1 ?_
 rw [rounds_succ]
 go_wp2_with (first | (refine' xAa hR rfl rfl rfl inferInstance hm ht ?_))
 go_end0
 exact ⟨rfl, hR⟩
theorem grow_Msg (hm : (bb, Obj.cells bk.toArray 57) ∈ L) (ht : bk[15]? = some (.slice none 0 0)) (hR : Rep B0 w0 L w) : Calls Tryz.prog 80 #[.pointer (some ⟨bb, 0, none⟩)] w fun e w' => e = .returned (.tuple #[]) ∧ Rep B0 w0 L w' := by
 have t0 : ((0 : Int) < 0) = False := by simp
 go_enter Tryz.func80, Tryz.ntmps80
 go_wp2_with (first | (refine' xAa hR rfl rfl rfl inferInstance hm ht ?_))
 refine wp_loop_rounds 1 ?_
 rw [rounds_succ]
 go_wp2_with (first | (refine' xAa hR rfl rfl rfl inferInstance hm ht ?_))
 go_end0
 exact ⟨rfl, hR⟩
theorem look_Msg (hm : (bb, Obj.cells bk.toArray 57) ∈ L) (ht : bk[15]? = some (.slice none 0 0)) (hR : Rep B0 w0 L w) : Calls Tryz.prog 97 #[.pointer (some ⟨bb, 0, none⟩)] w fun e w' => e = .returned (.bool true) ∧ Rep B0 w0 L w' := by
 have t0 : ((0 : Int) < 0) = False := by simp
 go_enter Tryz.func97, Tryz.ntmps97
 go_wp2_with (first | (refine' xAa hR rfl rfl rfl inferInstance hm ht ?_))
 refine wp_loop_rounds 1 ?_
 rw [rounds_succ]
 go_wp2_with (first | (refine' xAa hR rfl rfl rfl inferInstance hm ht ?_))
 go_ret
 exact ⟨rfl, hR⟩
theorem fill_Frame (hm : (bb, Obj.cells bk.toArray 57) ∈ L) (ht : bk[16]? = some (.slice none 0 0)) (hR : Rep B0 w0 L w) : Calls Tryz.prog 64 #[.pointer (some ⟨bb, 0, none⟩)] w fun e w' => e = .returned (.tuple #[]) ∧ Rep B0 w0 L w' := by
 have t0 : ((0 : Int) < 0) = False := by simp
 go_enter Tryz.func64, Tryz.ntmps64
 go_wp2_with (first | (refine' xAa hR rfl rfl rfl inferInstance hm ht ?_))
 refine wp_loop_rounds 1 ?_
 rw [rounds_succ]
 go_wp2_with (first | (refine' xAa hR rfl rfl rfl inferInstance hm ht ?_))
 go_end0
 exact ⟨rfl, hR⟩
theorem grow_Frame (hm : (bb, Obj.cells bk.toArray 57) ∈ L) (ht : bk[16]? = some (.slice none 0 0)) (hR : Rep B0 w0 L w) : Calls Tryz.prog 81 #[.pointer (some ⟨bb, 0, none⟩)] w fun e w' => e = .returned (.tuple #[]) ∧ Rep B0 w0 L w' := by
 have t0 : ((0 : Int) < 0) = False := by simp
 go_enter Tryz.func81, Tryz.ntmps81
 go_wp2_with (first | (refine' xAa hR rfl rfl rfl inferInstance hm ht ?_))
 refine wp_loop_rounds 1 ?_
 rw [rounds_succ]
 go_wp2_with (first | (refine' xAa hR rfl rfl rfl inferInstance hm ht ?_))
 go_end0
 exact ⟨rfl, hR⟩
theorem look_Frame (hm : (bb, Obj.cells bk.toArray 57) ∈ L) (ht : bk[16]? = some (.slice none 0 0)) (hR : Rep B0 w0 L w) : Calls Tryz.prog 98 #[.pointer (some ⟨bb, 0, none⟩)] w fun e w' => e = .returned (.bool true) ∧ Rep B0 w0 L w' := by
 have t0 : ((0 : Int) < 0) = False := by simp
 go_enter Tryz.func98, Tryz.ntmps98
 go_wp2_with (first | (refine' xAa hR rfl rfl rfl inferInstance hm ht ?_))
 refine wp_loop_rounds 1 ?_
 rw [rounds_succ]
 go_wp2_with (first | (refine' xAa hR rfl rfl rfl inferInstance hm ht ?_))
 go_ret
 exact ⟨rfl, hR⟩
theorem fill_Record (hm : (bb, Obj.cells bk.toArray 57) ∈ L) (ht : bk[17]? = some (.slice none 0 0)) (hR : Rep B0 w0 L w) : Calls Tryz.prog 65 #[.pointer (some ⟨bb, 0, none⟩)] w fun e w' => e = .returned (.tuple #[]) ∧ Rep B0 w0 L w' := by
 have t0 : ((0 : Int) < 0) = False := by simp
 go_enter Tryz.func65, Tryz.ntmps65
 go_wp2_with (first | (refine' xAa hR rfl rfl rfl inferInstance hm ht ?_))
 refine wp_loop_rounds 1 ?_
 rw [rounds_succ]
 go_wp2_with (first | (refine' xAa hR rfl rfl rfl inferInstance hm ht ?_))
 go_end0
 exact ⟨rfl, hR⟩
theorem grow_Record (hm : (bb, Obj.cells bk.toArray 57) ∈ L) (ht : bk[17]? = some (.slice none 0 0)) (hR : Rep B0 w0 L w) : Calls Tryz.prog 82 #[.pointer (some ⟨bb, 0, none⟩)] w fun e w' => e = .returned (.tuple #[]) ∧ Rep B0 w0 L w' := by
 have t0 : ((0 : Int) < 0) = False := by simp
 go_enter Tryz.func82, Tryz.ntmps82
 go_wp2_with (first | (refine' xAa hR rfl rfl rfl inferInstance hm ht ?_))
 refine wp_loop_rounds 1 ?_
 rw [rounds_succ]
 go_wp2_with (first | (refine' xAa hR rfl rfl rfl inferInstance hm ht ?_))
 go_end0
 exact ⟨rfl, hR⟩
theorem look_Record (hm : (bb, Obj.cells bk.toArray 57) ∈ L) (ht : bk[17]? = some (.slice none 0 0)) (hR : Rep B0 w0 L w) : Calls Tryz.prog 99 #[.pointer (some ⟨bb, 0, none⟩)] w fun e w' => e = .returned (.bool true) ∧ Rep B0 w0 L w' := by
 have t0 : ((0 : Int) < 0) = False := by simp
 go_enter Tryz.func99, Tryz.ntmps99
 go_wp2_with (first | (refine' xAa hR rfl rfl rfl inferInstance hm ht ?_))
 refine wp_loop_rounds 1 ?_
 rw [rounds_succ]
 go_wp2_with (first | (refine' xAa hR rfl rfl rfl inferInstance hm ht ?_))
 go_ret
 exact ⟨rfl, hR⟩
end
end
section
structure Ent where
 a : Option Addr
 n : Nat
 cap : Nat
 la : Option Addr
 ln : Nat
 lc : Nat
 k : Nat
def hrow (e : Ent) : List Value := [.slice e.a e.n e.cap, .slice e.la e.ln e.lc, .int .i64 (e.k : Int)]
theorem hrow_len (e : Ent) : (hrow e).length = 3 := rfl
theorem hrow_one (e : Ent) : ∀ u ∈ hrow e, u.oneCell' = true := fun u hu => by
 simp only [hrow, List.mem_cons, List.not_mem_nil, or_false] at hu
 rcases hu with rfl | rfl | rfl <;> rfl
def rowsH (E : Nat → Ent) : Nat → List Value
 | 0 => []
 | n + 1 => rowsH E n ++ hrow (E n)
theorem rowsH_len (E : Nat → Ent) : ∀ n, (rowsH E n).length = n * 3
  | 0 => rfl
  | n + 1 => by
    show (rowsH E n ++ hrow (E n)).length = _
    rw [List.length_append, rowsH_len E n, hrow_len]
    omega
theorem rowsH_at (E : Nat → Ent) : ∀ n j, j < n → ((rowsH E n).drop (j * 3)).take 3 = hrow (E j)
  | 0, j, hj => absurd hj (Nat.not_lt_zero j)
  | n + 1, j, hj => by
    have hl := rowsH_len E n
    show ((rowsH E n ++ hrow (E n)).drop (j * 3)).take 3 = hrow (E j)
    by_cases hjn : j < n
    · rw [List.drop_append_of_le_length (by rw [hl]; omega), List.take_append_of_le_length (by rw [List.length_drop, hl]; omega)]
      exact rowsH_at E n j hjn
    · obtain rfl : j = n := by omega
      rw [← hl, List.drop_left, List.take_of_length_le (by rw [hrow_len]; exact Nat.le_refl _)]
def xEa (F : Nat → List (Nat × Obj)) : Nat → List (Nat × Obj)
 | 0 => []
 | m + 1 => xEa F m ++ F m
theorem xDn {F G : Nat → List (Nat × Obj)} : ∀ m, (∀ j, j < m → F j = G j) → xEa F m = xEa G m
 | 0, _ => rfl
 | m + 1, h => by rw [xEa, xEa, xDn m (fun j hj => h j (by omega)), h m (by omega)]
theorem xHp {F : Nat → List (Nat × Obj)} {i : Nat} : ∀ m, i < m → (xEa F m).Perm (F i ++ xEa (fun j => if j = i then [] else F j) m)
  | 0, hi => absurd hi (Nat.not_lt_zero i)
  | m + 1, hi => by
    rw [xEa, xEa]
    by_cases him : i < m
    · rw [if_neg (by omega : ¬ m = i), ← List.append_assoc]
      exact (xHp m him).append_right _
    · obtain rfl : i = m := by omega
      rw [if_pos rfl, List.append_nil, xDn (G := F) i (fun j hj => if_neg (by omega))]
      exact List.perm_append_comm
instance rowHeld : RowT Tryz.prog 122 3 := .mk' (by kernel_rfl) (by kernel_rfl)
instance rowBook : RowT Tryz.prog 57 18 := .mk' (by kernel_rfl) (by kernel_rfl)
theorem mark_build (N : Nat) (hN : N < 18446744073709551616) (w : World) : (Instr.build 24 #[(0, .int .u64 (N : Int))]).run Tryz.prog w = .ok (.agg (nl N).toArray) w := by
 have e : nl N = [.int .u64 (N : Int), .int .u64 0, .int .u64 0, .int .u64 0] := by
  have h0 : wd N 0 = (N : Int) := by rw [xCv, Nat.pow_zero, Nat.div_one, Nat.mod_eq_of_lt hN]
  have h1 : ∀ j, wd N (j + 1) = 0 := fun j => by
   have : N / 18446744073709551616 ^ (j + 1) = 0 := by
    rw [Nat.pow_succ, Nat.mul_comm, ← Nat.div_div_eq_div_mul, Nat.div_eq_of_lt hN, Nat.zero_div]
   rw [xCv, this]
   rfl
  unfold nl
  rw [h0, h1 0, h1 1, h1 2]
 have h : (Instr.build 24 #[(0, .int .u64 (N : Int))]).run Tryz.prog w = .ok (.agg [Value.int .u64 (N : Int), .int .u64 0, .int .u64 0, .int .u64 0].toArray) w := by
  clear e hN
  generalize (N : Int) = M
  kernel_rfl
 rw [e]
 exact h
end
section
theorem info_heldT : (Tryz.prog.info? 122).map (fun i => (i.zero.map (fun z => z.cells.size), i.size, i.bytes)) = some (some 3, 3, 56) := by kernel_rfl
theorem info_heldP : ∃ i z, Tryz.prog.info? 122 = some i ∧ i.zero = some z ∧ z.cells.size = 3 ∧ i.size = 3 ∧ i.bytes = 56 := by
 have h := info_heldT
 cases hi : Tryz.prog.info? 122 with
 | none => rw [hi] at h; cases h
 | some i =>
  rw [hi] at h
  simp only [Option.map_some, Option.some.injEq, Prod.mk.injEq] at h
  obtain ⟨h1, h2, h3⟩ := h
  cases hz : i.zero with
  | none => rw [hz] at h1; cases h1
  | some z => rw [hz] at h1; exact ⟨i, z, rfl, hz, by simpa using h1, h2, h3⟩
theorem rowsH_succ (E : Nat → Ent) (n : Nat) : rowsH E (n + 1) = rowsH E n ++ hrow (E n) := rfl
structure GrH where
 a : Option Addr
 cap : Nat
 bl : List (Nat × Obj)
def GrHOk (x : GrH) (n : Nat) (f : Nat → Ent) : Prop := (x = ⟨none, 0, []⟩ ∧ n = 0) ∨
 ∃ g, ∃ cur : List Value, x.a = some ⟨g, 0, none⟩ ∧ x.bl = [(g, .cells cur.toArray 122)] ∧ n ≤ x.cap ∧ x.cap ≤ maxLen ∧ cur.length = x.cap * 3 ∧ cur.take (n * 3) = rowsH f n
theorem held_new (e : Ent) (w : World) : (Instr.buildSlice 42 1 #[(0, .agg (hrow e).toArray)]).run Tryz.prog w = .ok (.slice (some ⟨w.heap.size, 0, none⟩) 1 1) (w.alloc (.cells (hrow e).toArray 122)) := by
 unfold hrow
 go_simp
theorem held_build (a : Option Addr) (n c : Nat) (k : Int) (w : World) : (Instr.build 122 #[(0, .slice a n c), (2, .int .i64 k)]).run Tryz.prog w = .ok (.agg [Value.slice a n c, .slice none 0 0, .int .i64 k].toArray) w := by
 kernel_rfl
attribute [local irreducible] Calls Instr.build Instr.buildSlice
theorem xIc {o : Oper} {a : Act} {x : Operand} {e : Ent} (hg : o.guard = none) (hop : o.op = .buildSlice 42 1 #[(0, x)]) (hx : ev a x = some (.agg (hrow e).toArray)) : IsNew Tryz.prog o a (.cells (hrow e).toArray 122) (fun b => .slice (some ⟨b, 0, none⟩) 1 1) :=
 ⟨hg, fun w => by
  unfold execOp
  simp only [hop, List.map_toArray, List.map_cons, List.map_nil, xBj hx, held_new, Sem.run_bind, Result.andThen_ok, Sem.run_pure]⟩
section
variable {w w0 : World} {B0 : Nat} {R M : List (Nat × Obj)}
theorem appH_run {ty : TypeId} {x : GrH} {n : Nat} {f : Nat → Ent} {b : Nat} {v : Ent} (hR : Rep B0 w0 M w) (hp : M.Perm ((b, .cells (hrow v).toArray 122) :: (x.bl ++ R))) (hg : GrHOk x n f) (hv : f n = v) (hbig : n ≤ 1000000) :
  ∃ (x' : GrH) (w' : World), (Builtin.append_ #[42, 42] ty #[.slice x.a n x.cap, .slice (some ⟨b, 0, none⟩) 1 1]).run Tryz.prog w = .ok (.slice x'.a (n + 1 : Nat) x'.cap) w' ∧ GrHOk x' (n + 1) f ∧ Rep B0 w0 (x'.bl ++ R) w' := by
 subst hv
 replace hR := hR.permN hp
 obtain ⟨i, z, hi, hz, hzs, hsize, hby⟩ := info_heldP
 have hnews : ∀ j u, (hrow (f n))[j]? = some u → w.cell? ((⟨b, 0, none⟩ : Addr).add j) = some u := fun j u hj => by
  rw [xEe, Nat.zero_add]
  exact hR.cell (.head _) hj
 have hR0 : Rep B0 w0 (x.bl ++ R) w := hR.dropN
 have hm63 : n + 1 ≤ maxLen := by unfold maxLen; omega
 have hmb : (n + 1) * 56 ≤ 140737488355328 := by omega
 rcases hg with ⟨rfl, rfl⟩ | ⟨g, cur, ha, hbl, h1, h2, h3, h4⟩
 ·obtain ⟨v', w', hr, hO, hgr, hiff, hat⟩ := run_append_own_at (P := Tryz.prog) w B0 42 ty 122 i z 3 56 Tryz.underlying42 hi hz hsize hby hzs (by decide) (.slice none 0 0) 0 [] ⟨by simp, .inl ⟨rfl, rfl⟩⟩ ⟨b, 0, none⟩ 1 1 (hrow (f 0)) rfl hnews (hrow_one _) hm63 hmb hR.le
  obtain ⟨hl', ⟨hv, _⟩ | ⟨g', cap', cur', rfl, hB, hh, k2, k3, k4, k5⟩⟩ := hO
  ·exact absurd (hiff.1 hv).2 (by decide)
  ·have hR' := hR0.growN hgr (fun r hr => by cases hr)
   have hgg : g' = w.heap.size := by
    rcases hat with hat | hat
    ·cases hat
    ·exact Option.some.inj hat
   have hR2 := hR'.addN hB hh (fun p hp e => by
    have := hR0.lt hp
    omega)
   refine ⟨⟨some ⟨g', 0, none⟩, cap', [(g', .cells cur'.toList.toArray 122)]⟩, w', hr, .inr ⟨g', cur'.toList, rfl, rfl, k2, k3, by simpa using k4, ?_⟩, ?_⟩
   ·rw [k5]; rfl
   ·simpa using hR2
 ·rw [hbl] at hR0
  have hR1 : Rep B0 w0 ((g, .cells cur.toArray 122) :: R) w := hR0
  rw [ha]
  obtain ⟨v', w', hr, hO, hgr, hiff, hat⟩ := run_append_own_at (P := Tryz.prog) w B0 42 ty 122 i z 3 56 Tryz.underlying42 hi hz hsize hby hzs (by decide) (.slice (some ⟨g, 0, none⟩) n x.cap) n (rowsH f n) ⟨by rw [rowsH_len], .inr ⟨g, x.cap, cur.toArray, rfl, (hR1.own _ (.head _)).1, (hR1.own _ (.head _)).2, h1, h2, by simpa using h3, by simpa using h4⟩⟩ ⟨b, 0, none⟩ 1 1 (hrow (f n)) rfl hnews (hrow_one _) hm63 hmb hR.le
  obtain ⟨hl', ⟨hv, _⟩ | ⟨g', cap', cur', rfl, hB, hh, k2, k3, k4, k5⟩⟩ := hO
  ·exact absurd (hiff.1 hv).2 (by decide)
  ·have hR' := hR1.dropN.growN hgr (fun r hr => by
    obtain rfl : g = r := Option.some.inj hr
    exact ⟨(hR1.own _ (.head _)).1, hR1.apartN⟩)
   have hR2 := hR'.addN hB hh (fun p hp e => by
    rcases hat with hat | hat
    ·have hgg : g' = g := Option.some.inj hat
     exact hR1.apartN p hp (e.trans hgg)
    ·have hgg : g' = w.heap.size := Option.some.inj hat
     have := hR1.lt (.tail _ hp)
     omega)
   refine ⟨⟨some ⟨g', 0, none⟩, cap', [(g', .cells cur'.toList.toArray 122)]⟩, w', hr, .inr ⟨g', cur'.toList, rfl, rfl, k2, k3, by simpa using k4, ?_⟩, ?_⟩
   ·rw [k5, rowsH_succ]
   ·simpa using hR2
end
section
variable {ops : Array Oper} {B0 : Nat} {w0 : World} {Kp : List (Nat × Obj)} {Q : Exit → Act → World → Prop} {L R0 : List (Nat × Obj)}
theorem f_appH {N : Nat} {listed : Array Bool} {a : Act} {i : Nat} {r : List Nat} {oi : Oper} {di : Tmp} {s y : Operand} {x : GrH} {n b : Nat} {v : Ent} {f : Nat → Ent} (hoi : ops[i]? = some oi) (hdi : oi.dst = some di) (hg : oi.guard = none)
  (hop : oi.op = .call { callee := .builtin .append, args := #[s, y], argTypes := #[42, 42] }) (hs : ev a s = some (.slice x.a n x.cap)) (hy : ev a y = some (.slice (some ⟨b, 0, none⟩) 1 1)) (hp : L.Perm ((b, .cells (hrow v).toArray 122) :: (x.bl ++ R0))) (hx : GrHOk x n f) (hv : f n = v) (hbig : n ≤ 1000000) (hk : ∀ p, p ∈ Kp → p ∈ R0)
  (h : ∀ x' : GrH, GrHOk x' (n + 1) f → xDy Tryz.prog ops B0 w0 Kp Q N (listed.setIfInBounds i true) (a.put (some di) (.slice x'.a (n + 1 : Nat) x'.cap)) (R0 ++ x'.bl))
  (hr : xGi Tryz.prog ops B0 w0 Kp Q N listed a L r) : xGi Tryz.prog ops B0 w0 Kp Q N listed a L (i :: r) := by
 rw [← hdi] at h
 refine ⟨⟨oi, hoi, fun v M => ∃ x' : GrH, v = .slice x'.a (n + 1 : Nat) x'.cap ∧ GrHOk x' (n + 1) f ∧ M = R0 ++ x'.bl, .inl ⟨xDv hg _, fun w hw => ?_⟩, fun v M ⟨x', hv, hx, hM⟩ => ?_⟩, hr⟩
 ·obtain ⟨x', w', hrun, hx', hR'⟩ := appH_run (ty := oi.type) hw hp hx hv hbig
  have hs := xBj hs
  have hy := xBj hy
  unfold execOp
  simp only [hop, resolve, invoke, builtin, Sem.run_bind, Sem.run_pure, Result.andThen_ok, List.map_toArray, List.map_cons, List.map_nil, hs, hy, hrun]
  exact ⟨_, ⟨x', rfl, hx', rfl⟩, hR'.permN List.perm_append_comm⟩
 ·subst hv hM
  exact ⟨fun p hp => List.mem_append_left _ (hk p hp), h x' hx⟩
end
section
variable {ops : Array Oper} {o : Oper} {a : Act} {B0 : Nat} {w0 : World} {L L' : List (Nat × Obj)}
theorem xDe (hg : o.guard = none) {ty : TypeId} {x y : Operand} (hop : o.op = .store ty x y) {b off : Nat} (hx : ev a x = some (.pointer (some ⟨b, off, none⟩))) (hT : xDt Tryz.prog ty) {l l' : List Value} {v : Value} {t : TypeId}
  (hy : ev a y = some v) (h1 : v.oneCell' = true) (hn : off < l.length) (hl : l.set off v = l') (hs : xBq L b (.cells l.toArray t) (.cells l'.toArray t) L') : xBg Tryz.prog ops o undef a (Rep B0 w0 L) (Rep B0 w0 L') :=
 .inl ⟨xDv hg _, fun w hR => by
  have hx := xBj hx
  have hy := xBj hy
  obtain ⟨w', e, hR'⟩ := hR.storeCell (P := Tryz.prog) (ty := ty) (off := off) h1 hs hn hl
  unfold execOp
  simp only [hop, hx, hy, Instr.storeAt, Instr.sureAddr, Sem.run_bind, Sem.run_pure, Result.andThen_ok, e]
  exact ⟨rfl, hR'⟩⟩
theorem xCa (hg : o.guard = none) {ty : TypeId} {x : Operand} (hop : o.op = .load ty x) {b off : Nat} (hx : ev a x = some (.pointer (some ⟨b, off, none⟩))) (hT : xDt Tryz.prog ty) {l : List Value} {v : Value} {t : TypeId} (hm : (b, Obj.cells l.toArray t) ∈ L) (hv : l[off]? = some v) : xBg Tryz.prog ops o v a (Rep B0 w0 L) (Rep B0 w0 L) :=
 .inl ⟨xDv hg _, fun w hR => by
  have hx := xBj hx
  have e := cell_load (ty := ty) (hR.cell hm hv)
  unfold execOp
  simp only [hop, hx, Instr.loadAt, Instr.sureAddr, Sem.run_bind, Sem.run_pure, Result.andThen_ok, e]
  exact ⟨rfl, hR⟩⟩
end
end
section
def bkL (N : Int) (s : Value) : List Value := [.int .i64 N, .slice none 0 0, .slice none 0 0, .slice none 0 0, s, .slice none 0 0, .slice none 0 0, .slice none 0 0, .slice none 0 0, .slice none 0 0, .slice none 0 0, .slice none 0 0, .slice none 0 0, .slice none 0 0, .slice none 0 0, .slice none 0 0, .slice none 0 0, .slice none 0 0]
theorem bk_n (N : Int) (s : Value) : (bkL N s)[0]? = some (.int .i64 N) := rfl
theorem bk_s (N : Int) (s : Value) : (bkL N s)[4]? = some s := rfl
theorem bk_setn (N M : Int) (s : Value) : (bkL N s).set 0 (.int .i64 M) = bkL M s := rfl
theorem bk_sets (N : Int) (s t : Value) : (bkL N s).set 4 t = bkL N t := rfl
theorem bk_len (N : Int) (s : Value) : (bkL N s).length = 18 := rfl
attribute [local irreducible] Calls Instr.build Instr.buildSlice
section
variable {B0 : Nat} {w0 w : World} {R : List (Nat × Obj)} {bb : Nat} {E : Nat → Ent}
theorem keep_num {x : GrH} {m N n c : Nat} {a : Option Addr} (hx : GrHOk x m E) (hm : m ≤ 1000) (hN : N ≤ 1000) (hE : E m = ⟨a, n, c, none, 0, 0, N + 1⟩) (hR : Rep B0 w0 ((bb, .cells (bkL N (.slice x.a m x.cap)).toArray 57) :: (x.bl ++ R)) w) :
  Calls Tryz.prog 48 #[.pointer (some ⟨bb, 0, none⟩), .slice a n c] w fun e w' => e = .returned (.tuple #[]) ∧ ∃ x' : GrH, GrHOk x' (m + 1) E ∧ Rep B0 w0 ((bb, .cells (bkL ((N + 1 : Nat) : Int) (.slice x'.a (m + 1 : Nat) x'.cap)).toArray 57) :: (R ++ x'.bl)) w' := by
 have t0 := bk_n N (.slice x.a m x.cap)
 have s0 := bk_setn N ((N + 1 : Nat) : Int) (.slice x.a m x.cap)
 have t1 := bk_n ((N + 1 : Nat) : Int) (.slice x.a m x.cap)
 have t4 := bk_s ((N + 1 : Nat) : Int) (.slice x.a m x.cap)
 have tl0 : 0 < (bkL N (.slice x.a m x.cap)).length := by rw [bk_len]; decide
 have ew : IntKind.i64.wrap ((N : Int) + 1) = ((N + 1 : Nat) : Int) := by rw [IntKind.wrap_i64]; omega
 have hb := fun w => held_build a n c ((N + 1 : Nat) : Int) w
 have hrw : [Value.slice a n c, .slice none 0 0, .int .i64 ((N + 1 : Nat) : Int)] = hrow (E m) := by rw [hE]; rfl
 rw [hrw] at hb
 replace hx := Held.mk hx
 clear hE hrw
 go_enter Tryz.func48, Tryz.ntmps48
 go_wp2_with (first | (refine' aAq hR ?_; clear hR; intro blk w hR) | (refine' aBq hR ?_; clear hR; intro blk w hR) | (refine' aPq hR ?_) | (refine' aQq hR ?_) | (refine' aRq hR ?_) | (refine' aFq hR ?_; clear hR; intro w hR) | (refine' aGq hR ?_; clear hR; intro w hR) | (refine' aIr hR tl0 s0 ?_; clear hR; intro w hR))
 try simp only [Act.put, kA, kB, List.setIfInBounds_toArray]
 refine xJr hR 16 xBo rfl ?_
 clear hR
 refine fHeads [] [1, 1, 1, 1, 2, 1, 1, 1, 1, 2, 2, 2, 2, 2, 2, 2] 8 rfl (by repeat (first | exact xBv | refine xBm (by repeat (first | exact .head _ | with_reducible assumption | apply mC)) ?_)) (by repeat (first | exact xBv | refine xBm (by repeat (first | exact .head _ | with_reducible assumption | apply mC)) ?_)) rfl (by decide +kernel) (fun K hK => ?_)
 repeat ((first | (refine xAy ?_) | (refine' xAk (by decide) rfl (.inl rfl) rfl ?ha ?_) | (refine' xAk (by decide) rfl (.inr rfl) rfl ?ha ?_) | (refine' aSq ?ha ?_) | (refine' aTq ?ha ?_) | (refine' aUq ?ha ?_) | (refine' aVq ?ha ?_) | (refine' aWq ?ha ?_) | ((first | refine' xAc (by decide) rfl rfl rfl rfl (fun w => ?hq) ?ha ?_ | refine' xAs (by decide) rfl rfl rfl rfl (fun w => ?hq) ?ha ?_ | refine' xAi (by decide) rfl rfl rfl (fun w => ?hq) ?ha ?_ | refine' xAb (by decide) rfl rfl rfl (fun w => ?hq) ?ha ?_ | refine' xAh (by decide) rfl rfl rfl (fun w => ?hq) ?ha ?_ | refine' xAq (by decide) rfl rfl rfl rfl (fun w => ?hq) ?ha ?_ | refine' xAr (by decide) rfl rfl rfl rfl rfl rfl (fun w => ?hq) ?ha ?_ | refine' xAo (by decide) rfl rfl (fun w => ?hq) ?ha ?_ | refine' xAj (by decide) rfl rfl rfl (fun w => ?hq) ?ha ?_ | refine' xAp (by decide) rfl rfl rfl (fun w => ?hq) ?ha ?_); (case hq => go_simp; try rfl)) | (refine' xAf (by decide) rfl rfl rfl ?ha ?_) | (refine' xAx (by decide) rfl rfl rfl rfl ?ha ?_) | (refine' xAw (by decide) rfl ?ha ?_) | fail); try (case ha => simp only [kP, kQ, kA, kB]; try rfl))
 refine xBb (hK _ _ ?_)
 clear hK K
 refine f_at [4, 9] (by decide +kernel) rfl ?_
 refine f_is 4 ?_
 refine f_y rfl rfl (xCa rfl rfl rfl inferInstance (.head _) t4) (fun p hp => nomatch hp) ?pA ?pB
 case' pA =>
  try simp only [Act.put, kA, kB, List.setIfInBounds_toArray]
  refine f_at [9] (by decide +kernel) rfl ?_
  refine f_is 9 ?_
  refine f_y rfl rfl (xCa rfl rfl rfl inferInstance (.head _) t1) (fun p hp => nomatch hp) ?_ f_nil
  try simp only [Act.put, kA, kB, List.setIfInBounds_toArray]
  refine fHeads [] [2, 2, 2, 2, 2, 2, 2, 2, 2, 2, 1, 2, 2, 2, 2, 2] 5 rfl (by repeat (first | exact xBv | refine xBm (by repeat (first | exact .head _ | with_reducible assumption | apply mC)) ?_)) (by repeat (first | exact xBv | refine xBm (by repeat (first | exact .head _ | with_reducible assumption | apply mC)) ?_)) rfl (by decide +kernel) (fun K hK => ?_)
  repeat ((first | (refine' xAo (by decide) rfl rfl (fun w => ?hq) ?ha ?_; (case hq => simp only [List.map_toArray, List.map_cons, List.map_nil]; exact hb _)) | (refine xAy ?_) | (refine' xAk (by decide) rfl (.inl rfl) rfl ?ha ?_) | (refine' xAk (by decide) rfl (.inr rfl) rfl ?ha ?_) | (refine' aSq ?ha ?_) | (refine' aTq ?ha ?_) | (refine' aUq ?ha ?_) | (refine' aVq ?ha ?_) | (refine' aWq ?ha ?_) | ((first | refine' xAc (by decide) rfl rfl rfl rfl (fun w => ?hq) ?ha ?_ | refine' xAs (by decide) rfl rfl rfl rfl (fun w => ?hq) ?ha ?_ | refine' xAi (by decide) rfl rfl rfl (fun w => ?hq) ?ha ?_ | refine' xAb (by decide) rfl rfl rfl (fun w => ?hq) ?ha ?_ | refine' xAh (by decide) rfl rfl rfl (fun w => ?hq) ?ha ?_ | refine' xAq (by decide) rfl rfl rfl rfl (fun w => ?hq) ?ha ?_ | refine' xAr (by decide) rfl rfl rfl rfl rfl rfl (fun w => ?hq) ?ha ?_ | refine' xAo (by decide) rfl rfl (fun w => ?hq) ?ha ?_ | refine' xAj (by decide) rfl rfl rfl (fun w => ?hq) ?ha ?_ | refine' xAp (by decide) rfl rfl rfl (fun w => ?hq) ?ha ?_); (case hq => go_simp; try rfl)) | (refine' xAf (by decide) rfl rfl rfl ?ha ?_) | (refine' xAx (by decide) rfl rfl rfl rfl ?ha ?_) | (refine' xAw (by decide) rfl ?ha ?_)); try (case ha => simp only [kP, kQ, kA, kB]; try rfl))
  refine xBb (hK _ _ ?_)
  clear hK K
  refine f_at [11] (by decide +kernel) rfl ?_
  refine f_is 11 ?_
  refine f_new rfl rfl (xIc rfl rfl rfl) (fun p hp => nomatch hp) (fun bs => ?_) f_nil
  try simp only [Act.put, kA, kB, List.setIfInBounds_toArray]
  refine f_at [12] (by decide +kernel) rfl ?_
  refine f_is 12 ?_
  refine f_appH (x := x) (n := m) (f := E) (b := bs) (v := E m) (R0 := (bb, .cells (bkL ((N + 1 : Nat) : Int) (.slice x.a m x.cap)).toArray 57) :: R) rfl rfl rfl rfl rfl rfl (List.Perm.cons _ List.perm_middle.symm) hx.out rfl (by omega) (fun p hp => nomatch hp) (fun x' hx' => ?_) f_nil
  try simp only [Act.put, kA, kB, List.setIfInBounds_toArray]
  have s4 := bk_sets ((N + 1 : Nat) : Int) (.slice x.a m x.cap) (.slice x'.a (m + 1 : Nat) x'.cap)
  have tl4 : 4 < (bkL ((N + 1 : Nat) : Int) (.slice x.a m x.cap)).length := by rw [bk_len]; decide
  refine fHeads [] [2, 2, 2, 2, 2, 2, 2, 2, 2, 2, 2, 2, 2, 1, 1, 2] 1 rfl (by repeat (first | exact xBv | refine xBm (by repeat (first | exact .head _ | with_reducible assumption | apply mC)) ?_)) (by repeat (first | exact xBv | refine xBm (by repeat (first | exact .head _ | with_reducible assumption | apply mC)) ?_)) rfl (by decide +kernel) (fun K hK => ?_)
  repeat ((first | (refine xAy ?_) | (refine' xAk (by decide) rfl (.inl rfl) rfl ?ha ?_) | (refine' xAk (by decide) rfl (.inr rfl) rfl ?ha ?_) | (refine' aSq ?ha ?_) | (refine' aTq ?ha ?_) | (refine' aUq ?ha ?_) | (refine' aVq ?ha ?_) | (refine' aWq ?ha ?_) | ((first | refine' xAc (by decide) rfl rfl rfl rfl (fun w => ?hq) ?ha ?_ | refine' xAs (by decide) rfl rfl rfl rfl (fun w => ?hq) ?ha ?_ | refine' xAi (by decide) rfl rfl rfl (fun w => ?hq) ?ha ?_ | refine' xAb (by decide) rfl rfl rfl (fun w => ?hq) ?ha ?_ | refine' xAh (by decide) rfl rfl rfl (fun w => ?hq) ?ha ?_ | refine' xAq (by decide) rfl rfl rfl rfl (fun w => ?hq) ?ha ?_ | refine' xAr (by decide) rfl rfl rfl rfl rfl rfl (fun w => ?hq) ?ha ?_ | refine' xAo (by decide) rfl rfl (fun w => ?hq) ?ha ?_ | refine' xAj (by decide) rfl rfl rfl (fun w => ?hq) ?ha ?_ | refine' xAp (by decide) rfl rfl rfl (fun w => ?hq) ?ha ?_); (case hq => go_simp; try rfl)) | (refine' xAf (by decide) rfl rfl rfl ?ha ?_) | (refine' xAx (by decide) rfl rfl rfl rfl ?ha ?_) | (refine' xAw (by decide) rfl ?ha ?_) | fail); try (case ha => simp only [kP, kQ, kA, kB]; try rfl))
  refine xBb (hK _ _ ?_)
  clear hK K
  refine f_at [15] (by decide +kernel) rfl ?_
  refine f_is 15 ?_
  refine f_s rfl rfl (xDe rfl rfl rfl inferInstance rfl rfl tl4 s4 xBq.head) (fun p hp => nomatch hp) ?_ f_nil
  refine f_end (by decide +kernel) (fun w hR => ?_)
  go_end0
  exact ⟨rfl, x', hx', hR⟩
 case' pB =>
  refine f_is 9 ?_
  refine f_y rfl rfl (xCa rfl rfl rfl inferInstance (.head _) t1) (fun p hp => nomatch hp) ?_ f_nil
  try simp only [Act.put, kA, kB, List.setIfInBounds_toArray]
  refine fHeads [] [2, 2, 2, 2, 2, 2, 2, 2, 2, 2, 1, 2, 2, 2, 2, 2] 6 rfl (by repeat (first | exact xBv | refine xBm (by repeat (first | exact .head _ | with_reducible assumption | apply mC)) ?_)) (by repeat (first | exact xBv | refine xBm (by repeat (first | exact .head _ | with_reducible assumption | apply mC)) ?_)) rfl (by decide +kernel) (fun K hK => ?_)
  repeat ((first | (refine' xAo (by decide) rfl rfl (fun w => ?hq) ?ha ?_; (case hq => simp only [List.map_toArray, List.map_cons, List.map_nil]; exact hb _)) | (refine xAy ?_) | (refine' xAk (by decide) rfl (.inl rfl) rfl ?ha ?_) | (refine' xAk (by decide) rfl (.inr rfl) rfl ?ha ?_) | (refine' aSq ?ha ?_) | (refine' aTq ?ha ?_) | (refine' aUq ?ha ?_) | (refine' aVq ?ha ?_) | (refine' aWq ?ha ?_) | ((first | refine' xAc (by decide) rfl rfl rfl rfl (fun w => ?hq) ?ha ?_ | refine' xAs (by decide) rfl rfl rfl rfl (fun w => ?hq) ?ha ?_ | refine' xAi (by decide) rfl rfl rfl (fun w => ?hq) ?ha ?_ | refine' xAb (by decide) rfl rfl rfl (fun w => ?hq) ?ha ?_ | refine' xAh (by decide) rfl rfl rfl (fun w => ?hq) ?ha ?_ | refine' xAq (by decide) rfl rfl rfl rfl (fun w => ?hq) ?ha ?_ | refine' xAr (by decide) rfl rfl rfl rfl rfl rfl (fun w => ?hq) ?ha ?_ | refine' xAo (by decide) rfl rfl (fun w => ?hq) ?ha ?_ | refine' xAj (by decide) rfl rfl rfl (fun w => ?hq) ?ha ?_ | refine' xAp (by decide) rfl rfl rfl (fun w => ?hq) ?ha ?_); (case hq => go_simp; try rfl)) | (refine' xAf (by decide) rfl rfl rfl ?ha ?_) | (refine' xAx (by decide) rfl rfl rfl rfl ?ha ?_) | (refine' xAw (by decide) rfl ?ha ?_)); try (case ha => simp only [kP, kQ, kA, kB]; try rfl))
  refine xBb (hK _ _ ?_)
  clear hK K
  refine f_at [4, 11] (by decide +kernel) rfl ?_
  refine f_is 4 ?_
  refine f_y rfl rfl (xCa rfl rfl rfl inferInstance (.head _) t4) (fun p hp => nomatch hp) ?qA ?qB
  case' qA =>
   try simp only [Act.put, kA, kB, List.setIfInBounds_toArray]
   refine f_at [11] (by decide +kernel) rfl ?_
   refine f_is 11 ?_
   refine f_new rfl rfl (xIc rfl rfl rfl) (fun p hp => nomatch hp) (fun bs => ?_) f_nil
   try simp only [Act.put, kA, kB, List.setIfInBounds_toArray]
   refine f_at [12] (by decide +kernel) rfl ?_
   refine f_is 12 ?_
   refine f_appH (x := x) (n := m) (f := E) (b := bs) (v := E m) (R0 := (bb, .cells (bkL ((N + 1 : Nat) : Int) (.slice x.a m x.cap)).toArray 57) :: R) rfl rfl rfl rfl rfl rfl (List.Perm.cons _ List.perm_middle.symm) hx.out rfl (by omega) (fun p hp => nomatch hp) (fun x' hx' => ?_) f_nil
   try simp only [Act.put, kA, kB, List.setIfInBounds_toArray]
   have s4 := bk_sets ((N + 1 : Nat) : Int) (.slice x.a m x.cap) (.slice x'.a (m + 1 : Nat) x'.cap)
   have tl4 : 4 < (bkL ((N + 1 : Nat) : Int) (.slice x.a m x.cap)).length := by rw [bk_len]; decide
   refine fHeads [] [2, 2, 2, 2, 2, 2, 2, 2, 2, 2, 2, 2, 2, 1, 1, 2] 1 rfl (by repeat (first | exact xBv | refine xBm (by repeat (first | exact .head _ | with_reducible assumption | apply mC)) ?_)) (by repeat (first | exact xBv | refine xBm (by repeat (first | exact .head _ | with_reducible assumption | apply mC)) ?_)) rfl (by decide +kernel) (fun K hK => ?_)
   repeat ((first | (refine xAy ?_) | (refine' xAk (by decide) rfl (.inl rfl) rfl ?ha ?_) | (refine' xAk (by decide) rfl (.inr rfl) rfl ?ha ?_) | (refine' aSq ?ha ?_) | (refine' aTq ?ha ?_) | (refine' aUq ?ha ?_) | (refine' aVq ?ha ?_) | (refine' aWq ?ha ?_) | ((first | refine' xAc (by decide) rfl rfl rfl rfl (fun w => ?hq) ?ha ?_ | refine' xAs (by decide) rfl rfl rfl rfl (fun w => ?hq) ?ha ?_ | refine' xAi (by decide) rfl rfl rfl (fun w => ?hq) ?ha ?_ | refine' xAb (by decide) rfl rfl rfl (fun w => ?hq) ?ha ?_ | refine' xAh (by decide) rfl rfl rfl (fun w => ?hq) ?ha ?_ | refine' xAq (by decide) rfl rfl rfl rfl (fun w => ?hq) ?ha ?_ | refine' xAr (by decide) rfl rfl rfl rfl rfl rfl (fun w => ?hq) ?ha ?_ | refine' xAo (by decide) rfl rfl (fun w => ?hq) ?ha ?_ | refine' xAj (by decide) rfl rfl rfl (fun w => ?hq) ?ha ?_ | refine' xAp (by decide) rfl rfl rfl (fun w => ?hq) ?ha ?_); (case hq => go_simp; try rfl)) | (refine' xAf (by decide) rfl rfl rfl ?ha ?_) | (refine' xAx (by decide) rfl rfl rfl rfl ?ha ?_) | (refine' xAw (by decide) rfl ?ha ?_) | fail); try (case ha => simp only [kP, kQ, kA, kB]; try rfl))
   refine xBb (hK _ _ ?_)
   clear hK K
   refine f_at [15] (by decide +kernel) rfl ?_
   refine f_is 15 ?_
   refine f_s rfl rfl (xDe rfl rfl rfl inferInstance rfl rfl tl4 s4 xBq.head) (fun p hp => nomatch hp) ?_ f_nil
   refine f_end (by decide +kernel) (fun w hR => ?_)
   go_end0
   exact ⟨rfl, x', hx', hR⟩
  case' qB =>
   refine f_is 11 ?_
   refine f_new rfl rfl (xIc rfl rfl rfl) (fun p hp => nomatch hp) (fun bs => ?_) f_nil
   try simp only [Act.put, kA, kB, List.setIfInBounds_toArray]
   refine f_at [4] (by decide +kernel) rfl ?_
   refine f_is 4 ?_
   refine f_y rfl rfl (xCa rfl rfl rfl inferInstance (.tail _ (.head _)) t4) (fun p hp => nomatch hp) ?_ f_nil
   try simp only [Act.put, kA, kB, List.setIfInBounds_toArray]
   refine f_at [12] (by decide +kernel) rfl ?_
   refine f_is 12 ?_
   refine f_appH (x := x) (n := m) (f := E) (b := bs) (v := E m) (R0 := (bb, .cells (bkL ((N + 1 : Nat) : Int) (.slice x.a m x.cap)).toArray 57) :: R) rfl rfl rfl rfl rfl rfl (List.Perm.cons _ List.perm_middle.symm) hx.out rfl (by omega) (fun p hp => nomatch hp) (fun x' hx' => ?_) f_nil
   try simp only [Act.put, kA, kB, List.setIfInBounds_toArray]
   have s4 := bk_sets ((N + 1 : Nat) : Int) (.slice x.a m x.cap) (.slice x'.a (m + 1 : Nat) x'.cap)
   have tl4 : 4 < (bkL ((N + 1 : Nat) : Int) (.slice x.a m x.cap)).length := by rw [bk_len]; decide
   refine fHeads [] [2, 2, 2, 2, 2, 2, 2, 2, 2, 2, 2, 2, 2, 1, 1, 2] 1 rfl (by repeat (first | exact xBv | refine xBm (by repeat (first | exact .head _ | with_reducible assumption | apply mC)) ?_)) (by repeat (first | exact xBv | refine xBm (by repeat (first | exact .head _ | with_reducible assumption | apply mC)) ?_)) rfl (by decide +kernel) (fun K hK => ?_)
   repeat ((first | (refine xAy ?_) | (refine' xAk (by decide) rfl (.inl rfl) rfl ?ha ?_) | (refine' xAk (by decide) rfl (.inr rfl) rfl ?ha ?_) | (refine' aSq ?ha ?_) | (refine' aTq ?ha ?_) | (refine' aUq ?ha ?_) | (refine' aVq ?ha ?_) | (refine' aWq ?ha ?_) | ((first | refine' xAc (by decide) rfl rfl rfl rfl (fun w => ?hq) ?ha ?_ | refine' xAs (by decide) rfl rfl rfl rfl (fun w => ?hq) ?ha ?_ | refine' xAi (by decide) rfl rfl rfl (fun w => ?hq) ?ha ?_ | refine' xAb (by decide) rfl rfl rfl (fun w => ?hq) ?ha ?_ | refine' xAh (by decide) rfl rfl rfl (fun w => ?hq) ?ha ?_ | refine' xAq (by decide) rfl rfl rfl rfl (fun w => ?hq) ?ha ?_ | refine' xAr (by decide) rfl rfl rfl rfl rfl rfl (fun w => ?hq) ?ha ?_ | refine' xAo (by decide) rfl rfl (fun w => ?hq) ?ha ?_ | refine' xAj (by decide) rfl rfl rfl (fun w => ?hq) ?ha ?_ | refine' xAp (by decide) rfl rfl rfl (fun w => ?hq) ?ha ?_); (case hq => go_simp; try rfl)) | (refine' xAf (by decide) rfl rfl rfl ?ha ?_) | (refine' xAx (by decide) rfl rfl rfl rfl ?ha ?_) | (refine' xAw (by decide) rfl ?ha ?_) | fail); try (case ha => simp only [kP, kQ, kA, kB]; try rfl))
   refine xBb (hK _ _ ?_)
   clear hK K
   refine f_at [15] (by decide +kernel) rfl ?_
   refine f_is 15 ?_
   refine f_s rfl rfl (xDe rfl rfl rfl inferInstance rfl rfl tl4 s4 xBq.head) (fun p hp => nomatch hp) ?_ f_nil
   refine f_end (by decide +kernel) (fun w hR => ?_)
   go_end0
   exact ⟨rfl, x', hx', hR⟩
end
end
section
noncomputable def curSet (cur : List Value) (k v : Nat) : List Value := cur.take (k * 4) ++ nl v ++ cur.drop (k * 4 + 4)
theorem NOwn.put {cap n k v : Nat} {cur : List Value} {f : Nat → Nat} (h : NOwn cap cur n f) (hk : k < n) : NOwn cap (curSet cur k v) n (fun j => if j = k then v else f j) := by
 have h1 := h.le
 have h2 := h.len
 refine ⟨h.le, h.big, ?_, ?_⟩
 ·unfold curSet
  rw [List.length_append, List.length_append, List.length_take, List.length_drop, xGm, h2]
  omega
 ·have e := xEn (f := f) (f' := fun j => if j = k then v else f j) (i := k) (n := n) (v := v) hk (fun j _ => rfl)
  rw [← e, ← h.is]
  unfold curSet
  rw [List.take_take, Nat.min_eq_left (by omega : k * 4 ≤ n * 4), List.drop_take, List.take_append, List.take_of_length_le (by rw [List.length_append, List.length_take, xGm, h2]; omega)]
  congr 2
  rw [List.length_append, List.length_take, xGm, h2]
  omega
theorem GrHOk.row {x : GrH} {m : Nat} {E : Nat → Ent} (h : GrHOk x m E) (hm : m ≠ 0) : ∃ g, ∃ cur : List Value, x.a = some ⟨g, 0, none⟩ ∧ x.bl = [(g, .cells cur.toArray 122)] ∧ m ≤ x.cap ∧ x.cap ≤ maxLen ∧ cur.length = x.cap * 3 ∧ cur.take (m * 3) = rowsH E m ∧ ∀ j, j < m → (cur.drop (j * 3)).take 3 = hrow (E j) := by
 rcases h with ⟨_, h⟩ | ⟨g, cur, h1, h2, h3, h4, h5, h6⟩
 ·exact absurd h hm
 ·refine ⟨g, cur, h1, h2, h3, h4, h5, h6, fun j hj => ?_⟩
  rw [← rowsH_at E m j hj, ← h6, List.drop_take, List.take_take, Nat.min_eq_left (by omega)]
attribute [local irreducible] Calls Instr.build Instr.buildSlice
section
variable {ops : Array Oper} {o : Oper} {a : Act} {B0 : Nat} {w0 w : World} {L L' : List (Nat × Obj)}
theorem yields_storeO (hg : o.guard = none) {x y : Operand} (hop : o.op = .store 24 x y) {b k n cap v : Nat} {cur : List Value} {f : Nat → Nat} {t : TypeId} (hx : ev a x = some (.pointer (some ⟨b, k * 4, none⟩))) (hy : ev a y = some (num v)) (ho : NOwn cap cur n f) (hk : k < n)
  (hs : xBq L b (.cells cur.toArray t) (.cells (curSet cur k v).toArray t) L') : xBg Tryz.prog ops o undef a (Rep B0 w0 L) (Rep B0 w0 L') :=
 .inl ⟨xDv hg _, fun w hR => by
  have hx := xBj hx
  have hy := xBj hy
  obtain ⟨w', e, hR'⟩ := hR.storeRow (P := Tryz.prog) (ty := 24) (off := k * 4) (vs := nl v) rfl rfl hs (by rw [ho.len, xGm]; have := ho.le; omega) rfl
  unfold execOp
  simp only [hop, hx, hy, Instr.storeAt, Instr.sureAddr, Sem.run_bind, Sem.run_pure, Result.andThen_ok, e]
  exact ⟨rfl, hR'⟩⟩
theorem mark_num (N : Nat) (hN : N < 9223372036854775808) (w : World) : Calls Tryz.prog 137 #[.int .i64 (N : Int)] w fun e w' => e = .returned (num N) ∧ Below w.heap.size w w' := by
 have ew : IntKind.u64.wrap (N : Int) = (N : Int) := by rw [IntKind.wrap_u64]; omega
 have hb := fun w => mark_build N (by omega) w
 have hR := Rep.init w
 go_enter Tryz.func137, Tryz.ntmps137
 go_wp2_with (first | (refine' aAq hR ?_; clear hR; intro blk w hR) | (refine' aBq hR ?_; clear hR; intro blk w hR) | (refine' aPq hR ?_) | (refine' aQq hR ?_) | (refine' aRq hR ?_) | (refine' aFq hR ?_; clear hR; intro w hR) | (refine' aGq hR ?_; clear hR; intro w hR) | (refine' xBs rfl rfl rfl hb ?_))
 (refine' bodyPost_ret (xBc Tryz.results137 rfl (hR.loadAll (P := Tryz.prog) (ty := 24) ?hm ?hn)) rfl ⟨?_, hR.below⟩; (case hm => first | with_reducible assumption | repeat (first | exact .head _ | with_reducible assumption | apply mC)); (case hn => first | rfl | simp))
 rfl
theorem is_num (N x : Nat) (hN : N < 9223372036854775808) (w : World) : Calls Tryz.prog 154 #[num x, .int .i64 (N : Int)] w fun e w' => e = .returned (.bool (eqN x N)) ∧ Below w.heap.size w w' := by
 have ew : IntKind.u64.wrap (N : Int) = (N : Int) := by rw [IntKind.wrap_u64]; omega
 have hb := fun w => mark_build N (by omega) w
 have hR := Rep.init w
 go_enter Tryz.func154, Tryz.ntmps154
 go_wp2_with (first | (refine' aAq hR ?_; clear hR; intro blk w hR) | (refine' aBq hR ?_; clear hR; intro blk w hR) | (refine' aPq hR ?_) | (refine' aQq hR ?_) | (refine' aRq hR ?_) | (refine' aFq hR ?_; clear hR; intro w hR) | (refine' aGq hR ?_; clear hR; intro w hR) | (refine' xBs rfl rfl rfl hb ?_))
 go_ret
 exact ⟨rfl, hR.below⟩
end
section
variable {B0 : Nat} {w0 w : World} {R : List (Nat × Obj)} {bb : Nat} {E : Nat → Ent}
theorem nums_any {x : GrH} {m N n c : Nat} {a : Option Addr} (hx : GrHOk x m E) (hm : m ≤ 1000) (hN : N ≤ 1000) (hE : E m = ⟨a, n, c, none, 0, 0, N + 1⟩) (hR : Rep B0 w0 ((bb, .cells (bkL N (.slice x.a m x.cap)).toArray 57) :: (x.bl ++ R)) w) :
  Calls Tryz.prog 16 #[.pointer (some ⟨bb, 0, none⟩), .slice a n c] w fun e w' => e = .returned (.tuple #[]) ∧ ∃ x' : GrH, GrHOk x' (m + 1) E ∧ Rep B0 w0 ((bb, .cells (bkL ((N + 1 : Nat) : Int) (.slice x'.a (m + 1 : Nat) x'.cap)).toArray 57) :: (R ++ x'.bl)) w' := by
 have ck := fun (w : World) (hw : Rep B0 w0 ((bb, .cells (bkL N (.slice x.a m x.cap)).toArray 57) :: (x.bl ++ R)) w) => keep_num hx hm hN hE hw
 clear hE
 replace hx := Held.mk hx
 go_enter Tryz.func16, Tryz.ntmps16
 go_wp2_with (first | (refine' aAq hR ?_; clear hR; intro blk w hR) | (refine' aBq hR ?_; clear hR; intro blk w hR) | (refine' aPq hR ?_) | (refine' aQq hR ?_) | (refine' aRq hR ?_) | (refine' aFq hR ?_; clear hR; intro w hR) | (refine' aGq hR ?_; clear hR; intro w hR) | (go_at_call 48; refine (ck _ hR).mono ?_; clear hR; rintro e w ⟨rfl, x', hx', hR⟩))
 go_end0
 exact ⟨rfl, x', hx', hR⟩
end
end
end Go.Proofs.YtaaahfjpnggkbaaGreatDoor
