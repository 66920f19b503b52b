/- The contracts of bits.RotateLeft32 and shas.mix. -/
import Derived.Test.YtllmpiamcghboaaCut
import Derived.Test.YtllmpiamcghboaaGuard
import Derived.Test.YtllmpiamcghboaaProg
import Derived.Test.YtllmpiamcghboaaShaPlain
set_option linter.unusedSimpArgs false
set_option linter.unusedVariables false
namespace Go.Proofs.Ytllmpiamcghboaa
open Go.RowKit

theorem rot_int (x k : Nat) (hx : x < 4294967296) (hk : k ≤ 32) : bits BinOp.or IntKind.u32 ((x : Int) * 2 ^ (32 - k) % 4294967296) ((x : Int) / 2 ^ k) = ((rotr x k : Nat) : Int) := by
  have e1 : (x : Int) * 2 ^ (32 - k) % 4294967296 = ((x * 2 ^ (32 - k) % 4294967296 : Nat) : Int) := by simp
  have e2 : (x : Int) / 2 ^ k = ((x / 2 ^ k : Nat) : Int) := by simp
  rw [e1, e2, u32_or _ _ (Nat.mod_lt _ (by decide)) (Nat.lt_of_le_of_lt (Nat.div_le_self _ _) hx)]
  unfold rotr
  rw [Nat.or_comm]

theorem rot_any (x k : Nat) (hx : x < 4294967296) (hk : k ∈ [2, 6, 7, 11, 13, 17, 18, 19, 22, 25]) (w : World) : Calls Try.prog 31 #[.int .u32 (x : Int), .int .i64 (-(k : Int))] w fun e w' => e = .returned (.int .u32 ((rotr x k : Nat) : Int)) ∧ w' = w := by
  have hr := rot_int x k hx (by simp only [List.mem_cons, List.not_mem_nil, or_false] at hk; omega)
  generalize rotr x k = r at *
  simp only [List.mem_cons, List.not_mem_nil, or_false] at hk
  replace hr := Held.mk hr
  have hs : bits BinOp.and IntKind.u64 (IntKind.u64.wrap (-(k : Int))) 31 = 32 - (k : Int) := by
    rcases hk with rfl | rfl | rfl | rfl | rfl | rfl | rfl | rfl | rfl | rfl <;> decide
  rcases hk with rfl | rfl | rfl | rfl | rfl | rfl | rfl | rfl | rfl | rfl
  all_goals
    simp only [Int.cast_ofNat_Int, Int.reduceSub] at hs
    go_enter Try.func31, Try.ntmps31
    go_wp2
    go_ret
    have h := hr.out
    simp only [Nat.reduceSub, Int.reducePow] at h
    exact ⟨by rw [← h]; rfl, rfl⟩

attribute [local irreducible] Calls
instance : CellT Try.prog 3 := .mk' (by kernel_rfl) (by kernel_rfl)
theorem neg_small (k : Nat) (h : k ∈ [2, 6, 7, 11, 13, 17, 18, 19, 22, 25]) : wrap64 (-(k : Int)) = -(k : Int) := by
  simp only [List.mem_cons, List.not_mem_nil, or_false] at h
  unfold wrap64
  omega
theorem rot_lit (x k : Nat) (hx : x < 4294967296) (hk : k ∈ [2, 6, 7, 11, 13, 17, 18, 19, 22, 25]) : ∃ n : Int, wrap64 (-(k : Int)) = n ∧ ∀ w, Calls Try.prog 31 #[.int .u32 (x : Int), .int .i64 n] w fun e w' => e = .returned (.int .u32 ((rotr x k : Nat) : Int)) ∧ w' = w :=
  ⟨_, neg_small k hk, fun w => rot_any x k hx hk w⟩
theorem mix2_any (x k1 k2 b : Nat) (hx : x < 4294967296) (h1 : k1 ∈ [2, 6, 7, 11, 13, 17, 18, 19, 22, 25]) (h2 : k2 ∈ [2, 6, 7, 11, 13, 17, 18, 19, 22, 25]) (w : World)
    (c1 : w.cell? ⟨b, 0, none⟩ = some (.int .i64 (k1 : Int))) (c2 : w.cell? ⟨b, 1, none⟩ = some (.int .i64 (k2 : Int))) :
    Calls Try.prog 29 #[.int .u32 (x : Int), .slice (some ⟨b, 0, none⟩) 2 2] w fun e w' => e = .returned (.int .u32 ((rot2 x k1 k2 : Nat) : Int)) ∧ w' = w := by
  obtain ⟨n1, q1, r1⟩ := rot_lit x k1 hx h1
  obtain ⟨n2, q2, r2⟩ := rot_lit x k2 hx h2
  have x0 := u32_xor 0 (rotr x k1) (by decide) (rotr_lt _ hx)
  have x1 := u32_xor (rotr x k1) (rotr x k2) (rotr_lt _ hx) (rotr_lt _ hx)
  rw [Nat.zero_xor, Int.natCast_zero] at x0
  unfold rot2
  generalize rotr x k1 = a1 at *
  generalize rotr x k2 = a2 at *
  generalize a1 ^^^ a2 = a3 at *
  generalize (k1 : Int) = i1 at *
  generalize (k2 : Int) = i2 at *
  clear h1 h2
  go_enter Try.func29, Try.ntmps29
  go_wp2
  refine wp_loop_rounds 3 ?_
  rw [rounds_succ]
  go_wp2_with (go_at_call 31; refine (r1 _).mono ?_; rintro e w' ⟨rfl, rfl⟩)
  rw [rounds_succ]
  go_wp2_with (go_at_call 31; refine (r2 _).mono ?_; rintro e w' ⟨rfl, rfl⟩)
  rw [rounds_succ]
  go_wp2
  go_ret
  exact ⟨rfl, rfl⟩
theorem mix3_any (x k1 k2 k3 b : Nat) (hx : x < 4294967296) (h1 : k1 ∈ [2, 6, 7, 11, 13, 17, 18, 19, 22, 25]) (h2 : k2 ∈ [2, 6, 7, 11, 13, 17, 18, 19, 22, 25]) (h3 : k3 ∈ [2, 6, 7, 11, 13, 17, 18, 19, 22, 25]) (w : World)
    (c1 : w.cell? ⟨b, 0, none⟩ = some (.int .i64 (k1 : Int))) (c2 : w.cell? ⟨b, 1, none⟩ = some (.int .i64 (k2 : Int))) (c3 : w.cell? ⟨b, 2, none⟩ = some (.int .i64 (k3 : Int))) :
    Calls Try.prog 29 #[.int .u32 (x : Int), .slice (some ⟨b, 0, none⟩) 3 3] w fun e w' => e = .returned (.int .u32 ((rot3 x k1 k2 k3 : Nat) : Int)) ∧ w' = w := by
  obtain ⟨n1, q1, r1⟩ := rot_lit x k1 hx h1
  obtain ⟨n2, q2, r2⟩ := rot_lit x k2 hx h2
  obtain ⟨n3, q3, r3⟩ := rot_lit x k3 hx h3
  have x0 := u32_xor 0 (rotr x k1) (by decide) (rotr_lt _ hx)
  have x1 := u32_xor (rotr x k1) (rotr x k2) (rotr_lt _ hx) (rotr_lt _ hx)
  have x2 := u32_xor (rotr x k1 ^^^ rotr x k2) (rotr x k3) (xor_lt (rotr_lt _ hx) (rotr_lt _ hx)) (rotr_lt _ hx)
  rw [Nat.zero_xor, Int.natCast_zero] at x0
  unfold rot3
  generalize rotr x k1 = a1 at *
  generalize rotr x k2 = a2 at *
  generalize rotr x k3 = a3 at *
  generalize a1 ^^^ a2 ^^^ a3 = a5 at *
  generalize a1 ^^^ a2 = a4 at *
  generalize (k1 : Int) = i1 at *
  generalize (k2 : Int) = i2 at *
  generalize (k3 : Int) = i3 at *
  clear h1 h2 h3
  go_enter Try.func29, Try.ntmps29
  go_wp2
  refine wp_loop_rounds 4 ?_
  rw [rounds_succ]
  go_wp2_with (go_at_call 31; refine (r1 _).mono ?_; rintro e w' ⟨rfl, rfl⟩)
  rw [rounds_succ]
  go_wp2_with (go_at_call 31; refine (r2 _).mono ?_; rintro e w' ⟨rfl, rfl⟩)
  rw [rounds_succ]
  go_wp2_with (go_at_call 31; refine (r3 _).mono ?_; rintro e w' ⟨rfl, rfl⟩)
  rw [rounds_succ]
  go_wp2
  go_ret
  exact ⟨rfl, rfl⟩
end Go.Proofs.Ytllmpiamcghboaa
