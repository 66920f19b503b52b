import Derived.Test.YtaaahfjpnggkbaaGreatDoorHM
set_option linter.unusedSimpArgs false
set_option linter.unusedVariables false
set_option maxRecDepth 100000
set_option maxHeartbeats 20000000
namespace Go.Proofs.YtaaahfjpnggkbaaGreatDoor
open Go.RowKit
attribute [local irreducible] Calls Instr.build Instr.buildSlice
instance cellHeldByte : xDp Tryz.prog 39 := .mk' (by kernel_rfl) (by kernel_rfl)
instance cellHeldInt : xDp Tryz.prog 40 := .mk' (by kernel_rfl) (by kernel_rfl)
instance cellHeldText : xDp Tryz.prog 41 := .mk' (by kernel_rfl) (by kernel_rfl)
instance cellHeldNum : xDp Tryz.prog 42 := .mk' (by kernel_rfl) (by kernel_rfl)
instance cellHeldHash : xDp Tryz.prog 43 := .mk' (by kernel_rfl) (by kernel_rfl)
instance cellHeldReason : xDp Tryz.prog 44 := .mk' (by kernel_rfl) (by kernel_rfl)
instance cellHeldKey : xDp Tryz.prog 45 := .mk' (by kernel_rfl) (by kernel_rfl)
instance cellHeldProof : xDp Tryz.prog 46 := .mk' (by kernel_rfl) (by kernel_rfl)
instance cellHeldDealing : xDp Tryz.prog 47 := .mk' (by kernel_rfl) (by kernel_rfl)
instance cellHeldOpened : xDp Tryz.prog 48 := .mk' (by kernel_rfl) (by kernel_rfl)
instance cellHeldShown : xDp Tryz.prog 49 := .mk' (by kernel_rfl) (by kernel_rfl)
instance cellHeldVote : xDp Tryz.prog 50 := .mk' (by kernel_rfl) (by kernel_rfl)
instance cellHeldBlock : xDp Tryz.prog 51 := .mk' (by kernel_rfl) (by kernel_rfl)
instance cellHeldEvidence : xDp Tryz.prog 52 := .mk' (by kernel_rfl) (by kernel_rfl)
instance cellHeldMsg : xDp Tryz.prog 53 := .mk' (by kernel_rfl) (by kernel_rfl)
instance cellHeldFrame : xDp Tryz.prog 54 := .mk' (by kernel_rfl) (by kernel_rfl)
instance cellHeldRecord : xDp Tryz.prog 55 := .mk' (by kernel_rfl) (by kernel_rfl)
section
variable {B0 : Nat} {w0 w : World} {L : List (Nat × Obj)} {bb : Nat} {bk : List Value}
theorem fill_Byte (hm : (bb, Obj.cells bk.toArray 57) ∈ L) (ht : bk[1]? = some (.slice none 0 0)) (hR : Rep B0 w0 L w) : Calls Tryz.prog 49 #[.pointer (some ⟨bb, 0, none⟩)] w fun e w' => e = .returned (.tuple #[]) ∧ Rep B0 w0 L w' := by
 have t0 : ((0 : Int) < 0) = False := by simp
 go_enter Tryz.func49, Tryz.ntmps49
 go_wp2_with (first | (refine' xAb hR rfl rfl rfl inferInstance hm ht ?_))
 refine wp_loop_rounds 1 ?_
 rw [rounds_succ]
 go_wp2_with (first | (refine' xAb hR rfl rfl rfl inferInstance hm ht ?_))
 go_end0
 exact ⟨rfl, hR⟩
theorem grow_Byte (hm : (bb, Obj.cells bk.toArray 57) ∈ L) (ht : bk[1]? = some (.slice none 0 0)) (hR : Rep B0 w0 L w) : Calls Tryz.prog 66 #[.pointer (some ⟨bb, 0, none⟩)] w fun e w' => e = .returned (.tuple #[]) ∧ Rep B0 w0 L w' := by
 have t0 : ((0 : Int) < 0) = False := by simp
 go_enter Tryz.func66, Tryz.ntmps66
 go_wp2_with (first | (refine' xAb hR rfl rfl rfl inferInstance hm ht ?_))
 refine wp_loop_rounds 1 ?_
 rw [rounds_succ]
 go_wp2_with (first | (refine' xAb hR rfl rfl rfl inferInstance hm ht ?_))
 go_end0
 exact ⟨rfl, hR⟩
theorem look_Byte (hm : (bb, Obj.cells bk.toArray 57) ∈ L) (ht : bk[1]? = some (.slice none 0 0)) (hR : Rep B0 w0 L w) : Calls Tryz.prog 83 #[.pointer (some ⟨bb, 0, none⟩)] w fun e w' => e = .returned (.bool true) ∧ Rep B0 w0 L w' := by
 have t0 : ((0 : Int) < 0) = False := by simp
 go_enter Tryz.func83, Tryz.ntmps83
 go_wp2_with (first | (refine' xAb hR rfl rfl rfl inferInstance hm ht ?_))
 refine wp_loop_rounds 1 ?_
 rw [rounds_succ]
 go_wp2_with (first | (refine' xAb hR rfl rfl rfl inferInstance hm ht ?_))
 go_ret
 exact ⟨rfl, hR⟩
theorem fill_Text (hm : (bb, Obj.cells bk.toArray 57) ∈ L) (ht : bk[3]? = some (.slice none 0 0)) (hR : Rep B0 w0 L w) : Calls Tryz.prog 51 #[.pointer (some ⟨bb, 0, none⟩)] w fun e w' => e = .returned (.tuple #[]) ∧ Rep B0 w0 L w' := by
 have t0 : ((0 : Int) < 0) = False := by simp
 go_enter Tryz.func51, Tryz.ntmps51
 go_wp2_with (first | (refine' xAb hR rfl rfl rfl inferInstance hm ht ?_))
 refine wp_loop_rounds 1 ?_
 rw [rounds_succ]
 go_wp2_with (first | (refine' xAb hR rfl rfl rfl inferInstance hm ht ?_))
 go_end0
 exact ⟨rfl, hR⟩
theorem grow_Text (hm : (bb, Obj.cells bk.toArray 57) ∈ L) (ht : bk[3]? = some (.slice none 0 0)) (hR : Rep B0 w0 L w) : Calls Tryz.prog 68 #[.pointer (some ⟨bb, 0, none⟩)] w fun e w' => e = .returned (.tuple #[]) ∧ Rep B0 w0 L w' := by
 have t0 : ((0 : Int) < 0) = False := by simp
 go_enter Tryz.func68, Tryz.ntmps68
 go_wp2_with (first | (refine' xAb hR rfl rfl rfl inferInstance hm ht ?_))
 refine wp_loop_rounds 1 ?_
 rw [rounds_succ]
 go_wp2_with (first | (refine' xAb hR rfl rfl rfl inferInstance hm ht ?_))
 go_end0
 exact ⟨rfl, hR⟩
theorem look_Text (hm : (bb, Obj.cells bk.toArray 57) ∈ L) (ht : bk[3]? = some (.slice none 0 0)) (hR : Rep B0 w0 L w) : Calls Tryz.prog 85 #[.pointer (some ⟨bb, 0, none⟩)] w fun e w' => e = .returned (.bool true) ∧ Rep B0 w0 L w' := by
 have t0 : ((0 : Int) < 0) = False := by simp
 go_enter Tryz.func85, Tryz.ntmps85
 go_wp2_with (first | (refine' xAb hR rfl rfl rfl inferInstance hm ht ?_))
 refine wp_loop_rounds 1 ?_
 rw [rounds_succ]
 go_wp2_with (first | (refine' xAb hR rfl rfl rfl inferInstance hm ht ?_))
 go_ret
 exact ⟨rfl, hR⟩
theorem fill_Hash (hm : (bb, Obj.cells bk.toArray 57) ∈ L) (ht : bk[5]? = some (.slice none 0 0)) (hR : Rep B0 w0 L w) : Calls Tryz.prog 53 #[.pointer (some ⟨bb, 0, none⟩)] w fun e w' => e = .returned (.tuple #[]) ∧ Rep B0 w0 L w' := by
 have t0 : ((0 : Int) < 0) = False := by simp
 go_enter Tryz.func53, Tryz.ntmps53
 go_wp2_with (first | (refine' xAb hR rfl rfl rfl inferInstance hm ht ?_))
 refine wp_loop_rounds 1 ?_
 rw [rounds_succ]
 go_wp2_with (first | (refine' xAb hR rfl rfl rfl inferInstance hm ht ?_))
 go_end0
 exact ⟨rfl, hR⟩
theorem grow_Hash (hm : (bb, Obj.cells bk.toArray 57) ∈ L) (ht : bk[5]? = some (.slice none 0 0)) (hR : Rep B0 w0 L w) : Calls Tryz.prog 70 #[.pointer (some ⟨bb, 0, none⟩)] w fun e w' => e = .returned (.tuple #[]) ∧ Rep B0 w0 L w' := by
 have t0 : ((0 : Int) < 0) = False := by simp
 go_enter Tryz.func70, Tryz.ntmps70
 go_wp2_with (first | (refine' xAb hR rfl rfl rfl inferInstance hm ht ?_))
 refine wp_loop_rounds 1 ?_
 rw [rounds_succ]
 go_wp2_with (first | (refine' xAb hR rfl rfl rfl inferInstance hm ht ?_))
 go_end0
 exact ⟨rfl, hR⟩
theorem look_Hash (hm : (bb, Obj.cells bk.toArray 57) ∈ L) (ht : bk[5]? = some (.slice none 0 0)) (hR : Rep B0 w0 L w) : Calls Tryz.prog 87 #[.pointer (some ⟨bb, 0, none⟩)] w fun e w' => e = .returned (.bool true) ∧ Rep B0 w0 L w' := by
 have t0 : ((0 : Int) < 0) = False := by simp
 go_enter Tryz.func87, Tryz.ntmps87
 go_wp2_with (first | (refine' xAb hR rfl rfl rfl inferInstance hm ht ?_))
 refine wp_loop_rounds 1 ?_
 rw [rounds_succ]
 go_wp2_with (first | (refine' xAb hR rfl rfl rfl inferInstance hm ht ?_))
 go_ret
 exact ⟨rfl, hR⟩
theorem fill_Reason (hm : (bb, Obj.cells bk.toArray 57) ∈ L) (ht : bk[6]? = some (.slice none 0 0)) (hR : Rep B0 w0 L w) : Calls Tryz.prog 54 #[.pointer (some ⟨bb, 0, none⟩)] w fun e w' => e = .returned (.tuple #[]) ∧ Rep B0 w0 L w' := by
 have t0 : ((0 : Int) < 0) = False := by simp
 go_enter Tryz.func54, Tryz.ntmps54
 go_wp2_with (first | (refine' xAb hR rfl rfl rfl inferInstance hm ht ?_))
 refine wp_loop_rounds 1 ?_
 rw [rounds_succ]
 go_wp2_with (first | (refine' xAb hR rfl rfl rfl inferInstance hm ht ?_))
 go_end0
 exact ⟨rfl, hR⟩
theorem grow_Reason (hm : (bb, Obj.cells bk.toArray 57) ∈ L) (ht : bk[6]? = some (.slice none 0 0)) (hR : Rep B0 w0 L w) : Calls Tryz.prog 71 #[.pointer (some ⟨bb, 0, none⟩)] w fun e w' => e = .returned (.tuple #[]) ∧ Rep B0 w0 L w' := by
 have t0 : ((0 : Int) < 0) = False := by simp
 go_enter Tryz.func71, Tryz.ntmps71
 go_wp2_with (first | (refine' xAb hR rfl rfl rfl inferInstance hm ht ?_))
 refine wp_loop_rounds 1 ?_
 rw [rounds_succ]
 go_wp2_with (first | (refine' xAb hR rfl rfl rfl inferInstance hm ht ?_))
 go_end0
 exact ⟨rfl, hR⟩
theorem look_Reason (hm : (bb, Obj.cells bk.toArray 57) ∈ L) (ht : bk[6]? = some (.slice none 0 0)) (hR : Rep B0 w0 L w) : Calls Tryz.prog 88 #[.pointer (some ⟨bb, 0, none⟩)] w fun e w' => e = .returned (.bool true) ∧ Rep B0 w0 L w' := by
 have t0 : ((0 : Int) < 0) = False := by simp
 go_enter Tryz.func88, Tryz.ntmps88
 go_wp2_with (first | (refine' xAb hR rfl rfl rfl inferInstance hm ht ?_))
 refine wp_loop_rounds 1 ?_
 rw [rounds_succ]
 go_wp2_with (first | (refine' xAb hR rfl rfl rfl inferInstance hm ht ?_))
 go_ret
 exact ⟨rfl, hR⟩
theorem fill_Key (hm : (bb, Obj.cells bk.toArray 57) ∈ L) (ht : bk[7]? = some (.slice none 0 0)) (hR : Rep B0 w0 L w) : Calls Tryz.prog 55 #[.pointer (some ⟨bb, 0, none⟩)] w fun e w' => e = .returned (.tuple #[]) ∧ Rep B0 w0 L w' := by
 have t0 : ((0 : Int) < 0) = False := by simp
 go_enter Tryz.func55, Tryz.ntmps55
 go_wp2_with (first | (refine' xAb hR rfl rfl rfl inferInstance hm ht ?_))
 refine wp_loop_rounds 1 ?_
 rw [rounds_succ]
 go_wp2_with (first | (refine' xAb hR rfl rfl rfl inferInstance hm ht ?_))
 go_end0
 exact ⟨rfl, hR⟩
theorem grow_Key (hm : (bb, Obj.cells bk.toArray 57) ∈ L) (ht : bk[7]? = some (.slice none 0 0)) (hR : Rep B0 w0 L w) : Calls Tryz.prog 72 #[.pointer (some ⟨bb, 0, none⟩)] w fun e w' => e = .returned (.tuple #[]) ∧ Rep B0 w0 L w' := by
 have t0 : ((0 : Int) < 0) = False := by simp
 go_enter Tryz.func72, Tryz.ntmps72
 go_wp2_with (first | (refine' xAb hR rfl rfl rfl inferInstance hm ht ?_))
 refine wp_loop_rounds 1 ?_
 rw [rounds_succ]
 go_wp2_with (first | (refine' xAb hR rfl rfl rfl inferInstance hm ht ?_))
 go_end0
 exact ⟨rfl, hR⟩
theorem look_Key (hm : (bb, Obj.cells bk.toArray 57) ∈ L) (ht : bk[7]? = some (.slice none 0 0)) (hR : Rep B0 w0 L w) : Calls Tryz.prog 89 #[.pointer (some ⟨bb, 0, none⟩)] w fun e w' => e = .returned (.bool true) ∧ Rep B0 w0 L w' := by
 have t0 : ((0 : Int) < 0) = False := by simp
 go_enter Tryz.func89, Tryz.ntmps89
 go_wp2_with (first | (refine' xAb hR rfl rfl rfl inferInstance hm ht ?_))
 refine wp_loop_rounds 1 ?_
 rw [rounds_succ]
 go_wp2_with (first | (refine' xAb hR rfl rfl rfl inferInstance hm ht ?_))
 go_ret
 exact ⟨rfl, hR⟩
theorem fill_Proof (hm : (bb, Obj.cells bk.toArray 57) ∈ L) (ht : bk[8]? = some (.slice none 0 0)) (hR : Rep B0 w0 L w) : Calls Tryz.prog 56 #[.pointer (some ⟨bb, 0, none⟩)] w fun e w' => e = .returned (.tuple #[]) ∧ Rep B0 w0 L w' := by
 have t0 : ((0 : Int) < 0) = False := by simp
 go_enter Tryz.func56, Tryz.ntmps56
 go_wp2_with (first | (refine' xAb hR rfl rfl rfl inferInstance hm ht ?_))
 refine wp_loop_rounds 1 ?_
 rw [rounds_succ]
 go_wp2_with (first | (refine' xAb hR rfl rfl rfl inferInstance hm ht ?_))
 go_end0
 exact ⟨rfl, hR⟩
theorem grow_Proof (hm : (bb, Obj.cells bk.toArray 57) ∈ L) (ht : bk[8]? = some (.slice none 0 0)) (hR : Rep B0 w0 L w) : Calls Tryz.prog 73 #[.pointer (some ⟨bb, 0, none⟩)] w fun e w' => e = .returned (.tuple #[]) ∧ Rep B0 w0 L w' := by
 have t0 : ((0 : Int) < 0) = False := by simp
 go_enter Tryz.func73, Tryz.ntmps73
 go_wp2_with (first | (refine' xAb hR rfl rfl rfl inferInstance hm ht ?_))
 refine wp_loop_rounds 1 ?_
 rw [rounds_succ]
 go_wp2_with (first | (refine' xAb hR rfl rfl rfl inferInstance hm ht ?_))
 go_end0
 exact ⟨rfl, hR⟩
theorem look_Proof (hm : (bb, Obj.cells bk.toArray 57) ∈ L) (ht : bk[8]? = some (.slice none 0 0)) (hR : Rep B0 w0 L w) : Calls Tryz.prog 90 #[.pointer (some ⟨bb, 0, none⟩)] w fun e w' => e = .returned (.bool true) ∧ Rep B0 w0 L w' := by
 have t0 : ((0 : Int) < 0) = False := by simp
 go_enter Tryz.func90, Tryz.ntmps90
 go_wp2_with (first | (refine' xAb hR rfl rfl rfl inferInstance hm ht ?_))
 refine wp_loop_rounds 1 ?_
 rw [rounds_succ]
 go_wp2_with (first | (refine' xAb hR rfl rfl rfl inferInstance hm ht ?_))
 go_ret
 exact ⟨rfl, hR⟩
theorem fill_Dealing (hm : (bb, Obj.cells bk.toArray 57) ∈ L) (ht : bk[9]? = some (.slice none 0 0)) (hR : Rep B0 w0 L w) : Calls Tryz.prog 57 #[.pointer (some ⟨bb, 0, none⟩)] w fun e w' => e = .returned (.tuple #[]) ∧ Rep B0 w0 L w' := by
 have t0 : ((0 : Int) < 0) = False := by simp
 go_enter Tryz.func57, Tryz.ntmps57
 go_wp2_with (first | (refine' xAb hR rfl rfl rfl inferInstance hm ht ?_))
 refine wp_loop_rounds 1 ?_
 rw [rounds_succ]
 go_wp2_with (first | (refine' xAb hR rfl rfl rfl inferInstance hm ht ?_))
 go_end0
 exact ⟨rfl, hR⟩
theorem grow_Dealing (hm : (bb, Obj.cells bk.toArray 57) ∈ L) (ht : bk[9]? = some (.slice none 0 0)) (hR : Rep B0 w0 L w) : Calls Tryz.prog 74 #[.pointer (some ⟨bb, 0, none⟩)] w fun e w' => e = .returned (.tuple #[]) ∧ Rep B0 w0 L w' := by
 have t0 : ((0 : Int) < 0) = False := by simp
 go_enter Tryz.func74, Tryz.ntmps74
 go_wp2_with (first | (refine' xAb hR rfl rfl rfl inferInstance hm ht ?_))
 refine wp_loop_rounds 1 ?_
 rw [rounds_succ]
 go_wp2_with (first | (refine' xAb hR rfl rfl rfl inferInstance hm ht ?_))
 go_end0
 exact ⟨rfl, hR⟩
theorem look_Dealing (hm : (bb, Obj.cells bk.toArray 57) ∈ L) (ht : bk[9]? = some (.slice none 0 0)) (hR : Rep B0 w0 L w) : Calls Tryz.prog 91 #[.pointer (some ⟨bb, 0, none⟩)] w fun e w' => e = .returned (.bool true) ∧ Rep B0 w0 L w' := by
 have t0 : ((0 : Int) < 0) = False := by simp
 go_enter Tryz.func91, Tryz.ntmps91
 go_wp2_with (first | (refine' xAb hR rfl rfl rfl inferInstance hm ht ?_))
 refine wp_loop_rounds 1 ?_
 rw [rounds_succ]
 go_wp2_with (first | (refine' xAb hR rfl rfl rfl inferInstance hm ht ?_))
 go_ret
 exact ⟨rfl, hR⟩
theorem fill_Opened (hm : (bb, Obj.cells bk.toArray 57) ∈ L) (ht : bk[10]? = some (.slice none 0 0)) (hR : Rep B0 w0 L w) : Calls Tryz.prog 58 #[.pointer (some ⟨bb, 0, none⟩)] w fun e w' => e = .returned (.tuple #[]) ∧ Rep B0 w0 L w' := by
 have t0 : ((0 : Int) < 0) = False := by simp
 go_enter Tryz.func58, Tryz.ntmps58
 go_wp2_with (first | (refine' xAb hR rfl rfl rfl inferInstance hm ht ?_))
 refine wp_loop_rounds 1 ?_
 rw [rounds_succ]
 go_wp2_with (first | (refine' xAb hR rfl rfl rfl inferInstance hm ht ?_))
 go_end0
 exact ⟨rfl, hR⟩
theorem grow_Opened (hm : (bb, Obj.cells bk.toArray 57) ∈ L) (ht : bk[10]? = some (.slice none 0 0)) (hR : Rep B0 w0 L w) : Calls Tryz.prog 75 #[.pointer (some ⟨bb, 0, none⟩)] w fun e w' => e = .returned (.tuple #[]) ∧ Rep B0 w0 L w' := by
 have t0 : ((0 : Int) < 0) = False := by simp
 go_enter Tryz.func75, Tryz.ntmps75
 go_wp2_with (first | (refine' xAb hR rfl rfl rfl inferInstance hm ht ?_))
 refine wp_loop_rounds 1 ?_
 rw [rounds_succ]
 go_wp2_with (first | (refine' xAb hR rfl rfl rfl inferInstance hm ht ?_))
 go_end0
 exact ⟨rfl, hR⟩
theorem look_Opened (hm : (bb, Obj.cells bk.toArray 57) ∈ L) (ht : bk[10]? = some (.slice none 0 0)) (hR : Rep B0 w0 L w) : Calls Tryz.prog 92 #[.pointer (some ⟨bb, 0, none⟩)] w fun e w' => e = .returned (.bool true) ∧ Rep B0 w0 L w' := by
 have t0 : ((0 : Int) < 0) = False := by simp
 go_enter Tryz.func92, Tryz.ntmps92
 go_wp2_with (first | (refine' xAb hR rfl rfl rfl inferInstance hm ht ?_))
 refine wp_loop_rounds 1 ?_
 rw [rounds_succ]
 go_wp2_with (first | (refine' xAb hR rfl rfl rfl inferInstance hm ht ?_))
 go_ret
 exact ⟨rfl, hR⟩
theorem fill_Shown (hm : (bb, Obj.cells bk.toArray 57) ∈ L) (ht : bk[11]? = some (.slice none 0 0)) (hR : Rep B0 w0 L w) : Calls Tryz.prog 59 #[.pointer (some ⟨bb, 0, none⟩)] w fun e w' => e = .returned (.tuple #[]) ∧ Rep B0 w0 L w' := by
 have t0 : ((0 : Int) < 0) = False := by simp
 go_enter Tryz.func59, Tryz.ntmps59
 go_wp2_with (first | (refine' xAb hR rfl rfl rfl inferInstance hm ht ?_))
 refine wp_loop_rounds 1 ?_
 rw [rounds_succ]
 go_wp2_with (first | (refine' xAb hR rfl rfl rfl inferInstance hm ht ?_))
 go_end0
 exact ⟨rfl, hR⟩
theorem grow_Shown (hm : (bb, Obj.cells bk.toArray 57) ∈ L) (ht : bk[11]? = some (.slice none 0 0)) (hR : Rep B0 w0 L w) : Calls Tryz.prog 76 #[.pointer (some ⟨bb, 0, none⟩)] w fun e w' => e = .returned (.tuple #[]) ∧ Rep B0 w0 L w' := by
 have t0 : ((0 : Int) < 0) = False := by simp
 go_enter Tryz.func76, Tryz.ntmps76
 go_wp2_with (first | (refine' xAb hR rfl rfl rfl inferInstance hm ht ?_))
 refine wp_loop_rounds 1 ?_
 rw [rounds_succ]
 go_wp2_with (first | (refine' xAb hR rfl rfl rfl inferInstance hm ht ?_))
 go_end0
 exact ⟨rfl, hR⟩
theorem look_Shown (hm : (bb, Obj.cells bk.toArray 57) ∈ L) (ht : bk[11]? = some (.slice none 0 0)) (hR : Rep B0 w0 L w) : Calls Tryz.prog 93 #[.pointer (some ⟨bb, 0, none⟩)] w fun e w' => e = .returned (.bool true) ∧ Rep B0 w0 L w' := by
 have t0 : ((0 : Int) < 0) = False := by simp
 go_enter Tryz.func93, Tryz.ntmps93
 go_wp2_with (first | (refine' xAb hR rfl rfl rfl inferInstance hm ht ?_))
 refine wp_loop_rounds 1 ?_
 rw [rounds_succ]
 go_wp2_with (first | (refine' xAb hR rfl rfl rfl inferInstance hm ht ?_))
 go_ret
 exact ⟨rfl, hR⟩
theorem fill_Vote (hm : (bb, Obj.cells bk.toArray 57) ∈ L) (ht : bk[12]? = some (.slice none 0 0)) (hR : Rep B0 w0 L w) : Calls Tryz.prog 60 #[.pointer (some ⟨bb, 0, none⟩)] w fun e w' => e = .returned (.tuple #[]) ∧ Rep B0 w0 L w' := by
 have t0 : ((0 : Int) < 0) = False := by simp
 go_enter Tryz.func60, Tryz.ntmps60
 go_wp2_with (first | (refine' xAb hR rfl rfl rfl inferInstance hm ht ?_))
 refine wp_loop_rounds 1 ?_
 rw [rounds_succ]
 go_wp2_with (first | (refine' xAb hR rfl rfl rfl inferInstance hm ht ?_))
 go_end0
 exact ⟨rfl, hR⟩
theorem grow_Vote (hm : (bb, Obj.cells bk.toArray 57) ∈ L) (ht : bk[12]? = some (.slice none 0 0)) (hR : Rep B0 w0 L w) : Calls Tryz.prog 77 #[.pointer (some ⟨bb, 0, none⟩)] w fun e w' => e = .returned (.tuple #[]) ∧ Rep B0 w0 L w' := by
 have t0 : ((0 : Int) < 0) = False := by simp
 go_enter Tryz.func77, Tryz.ntmps77
 go_wp2_with (first | (refine' xAb hR rfl rfl rfl inferInstance hm ht ?_))
 refine wp_loop_rounds 1 ?_
 rw [rounds_succ]
 go_wp2_with (first | (refine' xAb hR rfl rfl rfl inferInstance hm ht ?_))
 go_end0
 exact ⟨rfl, hR⟩
theorem look_Vote (hm : (bb, Obj.cells bk.toArray 57) ∈ L) (ht : bk[12]? = some (.slice none 0 0)) (hR : Rep B0 w0 L w) : Calls Tryz.prog 94 #[.pointer (some ⟨bb, 0, none⟩)] w fun e w' => e = .returned (.bool true) ∧ Rep B0 w0 L w' := by
 have t0 : ((0 : Int) < 0) = False := by simp
 go_enter Tryz.func94, Tryz.ntmps94
 go_wp2_with (first | (refine' xAb hR rfl rfl rfl inferInstance hm ht ?_))
 refine wp_loop_rounds 1 ?_
 rw [rounds_succ]
 go_wp2_with (first | (refine' xAb hR rfl rfl rfl inferInstance hm ht ?_))
 go_ret
 exact ⟨rfl, hR⟩
theorem fill_Block (hm : (bb, Obj.cells bk.toArray 57) ∈ L) (ht : bk[13]? = some (.slice none 0 0)) (hR : Rep B0 w0 L w) : Calls Tryz.prog 61 #[.pointer (some ⟨bb, 0, none⟩)] w fun e w' => e = .returned (.tuple #[]) ∧ Rep B0 w0 L w' := by
 have t0 : ((0 : Int) < 0) = False := by simp
 go_enter Tryz.func61, Tryz.ntmps61
 go_wp2_with (first | (refine' xAb hR rfl rfl rfl inferInstance hm ht ?_))
 refine wp_loop_rounds 1 ?_
 rw [rounds_succ]
 go_wp2_with (first | (refine' xAb hR rfl rfl rfl inferInstance hm ht ?_))
 go_end0
 exact ⟨rfl, hR⟩
theorem grow_Block (hm : (bb, Obj.cells bk.toArray 57) ∈ L) (ht : bk[13]? = some (.slice none 0 0)) (hR : Rep B0 w0 L w) : Calls Tryz.prog 78 #[.pointer (some ⟨bb, 0, none⟩)] w fun e w' => e = .returned (.tuple #[]) ∧ Rep B0 w0 L w' := by
 have t0 : ((0 : Int) < 0) = False := by simp
 go_enter Tryz.func78, Tryz.ntmps78
 go_wp2_with (first | (refine' xAb hR rfl rfl rfl inferInstance hm ht ?_))
 refine wp_loop_rounds 1 ?_
 rw [rounds_succ]
 go_wp2_with (first | (refine' xAb hR rfl rfl rfl inferInstance hm ht ?_))
 go_end0
 exact ⟨rfl, hR⟩
theorem look_Block (hm : (bb, Obj.cells bk.toArray 57) ∈ L) (ht : bk[13]? = some (.slice none 0 0)) (hR : Rep B0 w0 L w) : Calls Tryz.prog 95 #[.pointer (some ⟨bb, 0, none⟩)] w fun e w' => e = .returned (.bool true) ∧ Rep B0 w0 L w' := by
 have t0 : ((0 : Int) < 0) = False := by simp
 go_enter Tryz.func95, Tryz.ntmps95
 go_wp2_with (first | (refine' xAb hR rfl rfl rfl inferInstance hm ht ?_))
 refine wp_loop_rounds 1 ?_
 rw [rounds_succ]
 go_wp2_with (first | (refine' xAb hR rfl rfl rfl inferInstance hm ht ?_))
 go_ret
 exact ⟨rfl, hR⟩
theorem fill_Evidence (hm : (bb, Obj.cells bk.toArray 57) ∈ L) (ht : bk[14]? = some (.slice none 0 0)) (hR : Rep B0 w0 L w) : Calls Tryz.prog 62 #[.pointer (some ⟨bb, 0, none⟩)] w fun e w' => e = .returned (.tuple #[]) ∧ Rep B0 w0 L w' := by
 have t0 : ((0 : Int) < 0) = False := by simp
 go_enter Tryz.func62, Tryz.ntmps62
 go_wp2_with (first | (refine' xAb hR rfl rfl rfl inferInstance hm ht ?_))
 refine wp_loop_rounds 1 ?_
 rw [rounds_succ]
 go_wp2_with (first | (refine' xAb hR rfl rfl rfl inferInstance hm ht ?_))
 go_end0
 exact ⟨rfl, hR⟩
theorem grow_Evidence (hm : (bb, Obj.cells bk.toArray 57) ∈ L) (ht : bk[14]? = some (.slice none 0 0)) (hR : Rep B0 w0 L w) : Calls Tryz.prog 79 #[.pointer (some ⟨bb, 0, none⟩)] w fun e w' => e = .returned (.tuple #[]) ∧ Rep B0 w0 L w' := by
 have t0 : ((0 : Int) < 0) = False := by simp
 go_enter Tryz.func79, Tryz.ntmps79
 go_wp2_with (first | (refine' xAb hR rfl rfl rfl inferInstance hm ht ?_))
 refine wp_loop_rounds 1 ?_
 rw [rounds_succ]
 go_wp2_with (first | (refine' xAb hR rfl rfl rfl inferInstance hm ht ?_))
 go_end0
 exact ⟨rfl, hR⟩
theorem look_Evidence (hm : (bb, Obj.cells bk.toArray 57) ∈ L) (ht : bk[14]? = some (.slice none 0 0)) (hR : Rep B0 w0 L w) : Calls Tryz.prog 96 #[.pointer (some ⟨bb, 0, none⟩)] w fun e w' => e = .returned (.bool true) ∧ Rep B0 w0 L w' := by
 have t0 : ((0 : Int) < 0) = False := by simp
 go_enter Tryz.func96, Tryz.ntmps96
 go_wp2_with (first | (refine' xAb hR rfl rfl rfl inferInstance hm ht ?_))
 refine wp_loop_rounds 1 ?_
 rw [rounds_succ]
 go_wp2_with (first | (refine' xAb hR rfl rfl rfl inferInstance hm ht ?_))
 go_ret
 exact ⟨rfl, hR⟩
theorem fill_Msg (hm : (bb, Obj.cells bk.toArray 57) ∈ L) (ht : bk[15]? = some (.slice none 0 0)) (hR : Rep B0 w0 L w) : Calls Tryz.prog 63 #[.pointer (some ⟨bb, 0, none⟩)] w fun e w' => e = .returned (.tuple #[]) ∧ Rep B0 w0 L w' := by
 have t0 : ((0 : Int) < 0) = False := by simp
 go_enter Tryz.func63, Tryz.ntmps63
 go_wp2_with (first | (refine' xAb hR rfl rfl rfl inferInstance hm ht ?_))
 refine wp_loop_rounds 1 ?_
 rw [rounds_succ]
 go_wp2_with (first | (refine' xAb hR rfl rfl rfl inferInstance hm ht ?_))
 go_end0
 exact ⟨rfl, hR⟩
theorem grow_Msg (hm : (bb, Obj.cells bk.toArray 57) ∈ L) (ht : bk[15]? = some (.slice none 0 0)) (hR : Rep B0 w0 L w) : Calls Tryz.prog 80 #[.pointer (some ⟨bb, 0, none⟩)] w fun e w' => e = .returned (.tuple #[]) ∧ Rep B0 w0 L w' := by
 have t0 : ((0 : Int) < 0) = False := by simp
 go_enter Tryz.func80, Tryz.ntmps80
 go_wp2_with (first | (refine' xAb hR rfl rfl rfl inferInstance hm ht ?_))
 refine wp_loop_rounds 1 ?_
 rw [rounds_succ]
 go_wp2_with (first | (refine' xAb hR rfl rfl rfl inferInstance hm ht ?_))
 go_end0
 exact ⟨rfl, hR⟩
theorem look_Msg (hm : (bb, Obj.cells bk.toArray 57) ∈ L) (ht : bk[15]? = some (.slice none 0 0)) (hR : Rep B0 w0 L w) : Calls Tryz.prog 97 #[.pointer (some ⟨bb, 0, none⟩)] w fun e w' => e = .returned (.bool true) ∧ Rep B0 w0 L w' := by
 have t0 : ((0 : Int) < 0) = False := by simp
 go_enter Tryz.func97, Tryz.ntmps97
 go_wp2_with (first | (refine' xAb hR rfl rfl rfl inferInstance hm ht ?_))
 refine wp_loop_rounds 1 ?_
 rw [rounds_succ]
 go_wp2_with (first | (refine' xAb hR rfl rfl rfl inferInstance hm ht ?_))
 go_ret
 exact ⟨rfl, hR⟩
theorem fill_Frame (hm : (bb, Obj.cells bk.toArray 57) ∈ L) (ht : bk[16]? = some (.slice none 0 0)) (hR : Rep B0 w0 L w) : Calls Tryz.prog 64 #[.pointer (some ⟨bb, 0, none⟩)] w fun e w' => e = .returned (.tuple #[]) ∧ Rep B0 w0 L w' := by
 have t0 : ((0 : Int) < 0) = False := by simp
 go_enter Tryz.func64, Tryz.ntmps64
 go_wp2_with (first | (refine' xAb hR rfl rfl rfl inferInstance hm ht ?_))
 refine wp_loop_rounds 1 ?_
 rw [rounds_succ]
 go_wp2_with (first | (refine' xAb hR rfl rfl rfl inferInstance hm ht ?_))
 go_end0
 exact ⟨rfl, hR⟩
theorem grow_Frame (hm : (bb, Obj.cells bk.toArray 57) ∈ L) (ht : bk[16]? = some (.slice none 0 0)) (hR : Rep B0 w0 L w) : Calls Tryz.prog 81 #[.pointer (some ⟨bb, 0, none⟩)] w fun e w' => e = .returned (.tuple #[]) ∧ Rep B0 w0 L w' := by
 have t0 : ((0 : Int) < 0) = False := by simp
 go_enter Tryz.func81, Tryz.ntmps81
 go_wp2_with (first | (refine' xAb hR rfl rfl rfl inferInstance hm ht ?_))
 refine wp_loop_rounds 1 ?_
 rw [rounds_succ]
 go_wp2_with (first | (refine' xAb hR rfl rfl rfl inferInstance hm ht ?_))
 go_end0
 exact ⟨rfl, hR⟩
theorem look_Frame (hm : (bb, Obj.cells bk.toArray 57) ∈ L) (ht : bk[16]? = some (.slice none 0 0)) (hR : Rep B0 w0 L w) : Calls Tryz.prog 98 #[.pointer (some ⟨bb, 0, none⟩)] w fun e w' => e = .returned (.bool true) ∧ Rep B0 w0 L w' := by
 have t0 : ((0 : Int) < 0) = False := by simp
 go_enter Tryz.func98, Tryz.ntmps98
 go_wp2_with (first | (refine' xAb hR rfl rfl rfl inferInstance hm ht ?_))
 refine wp_loop_rounds 1 ?_
 rw [rounds_succ]
 go_wp2_with (first | (refine' xAb hR rfl rfl rfl inferInstance hm ht ?_))
 go_ret
 exact ⟨rfl, hR⟩
theorem fill_Record (hm : (bb, Obj.cells bk.toArray 57) ∈ L) (ht : bk[17]? = some (.slice none 0 0)) (hR : Rep B0 w0 L w) : Calls Tryz.prog 65 #[.pointer (some ⟨bb, 0, none⟩)] w fun e w' => e = .returned (.tuple #[]) ∧ Rep B0 w0 L w' := by
 have t0 : ((0 : Int) < 0) = False := by simp
 go_enter Tryz.func65, Tryz.ntmps65
 go_wp2_with (first | (refine' xAb hR rfl rfl rfl inferInstance hm ht ?_))
 refine wp_loop_rounds 1 ?_
 rw [rounds_succ]
 go_wp2_with (first | (refine' xAb hR rfl rfl rfl inferInstance hm ht ?_))
 go_end0
 exact ⟨rfl, hR⟩
theorem grow_Record (hm : (bb, Obj.cells bk.toArray 57) ∈ L) (ht : bk[17]? = some (.slice none 0 0)) (hR : Rep B0 w0 L w) : Calls Tryz.prog 82 #[.pointer (some ⟨bb, 0, none⟩)] w fun e w' => e = .returned (.tuple #[]) ∧ Rep B0 w0 L w' := by
 have t0 : ((0 : Int) < 0) = False := by simp
 go_enter Tryz.func82, Tryz.ntmps82
 go_wp2_with (first | (refine' xAb hR rfl rfl rfl inferInstance hm ht ?_))
 refine wp_loop_rounds 1 ?_
 rw [rounds_succ]
 go_wp2_with (first | (refine' xAb hR rfl rfl rfl inferInstance hm ht ?_))
 go_end0
 exact ⟨rfl, hR⟩
theorem look_Record (hm : (bb, Obj.cells bk.toArray 57) ∈ L) (ht : bk[17]? = some (.slice none 0 0)) (hR : Rep B0 w0 L w) : Calls Tryz.prog 99 #[.pointer (some ⟨bb, 0, none⟩)] w fun e w' => e = .returned (.bool true) ∧ Rep B0 w0 L w' := by
 have t0 : ((0 : Int) < 0) = False := by simp
 go_enter Tryz.func99, Tryz.ntmps99
 go_wp2_with (first | (refine' xAb hR rfl rfl rfl inferInstance hm ht ?_))
 refine wp_loop_rounds 1 ?_
 rw [rounds_succ]
 go_wp2_with (first | (refine' xAb hR rfl rfl rfl inferInstance hm ht ?_))
 go_ret
 exact ⟨rfl, hR⟩
end
end Go.Proofs.YtaaahfjpnggkbaaGreatDoor
