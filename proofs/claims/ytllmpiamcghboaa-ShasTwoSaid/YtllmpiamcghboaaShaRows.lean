/- Rows of words and of bytes as values of the program. -/
import Derived.Test.YtllmpiamcghboaaShaMix
set_option linter.unusedSimpArgs false
set_option linter.unusedVariables false
namespace Go.Proofs.Ytllmpiamcghboaa
open Go.RowKit

instance : CellT Try.prog 26 := .mk' (by kernel_rfl) (by kernel_rfl)
instance : CellT Try.prog 5 := .mk' (by kernel_rfl) (by kernel_rfl)
instance : CellT Try.prog 22 := .mk' (by kernel_rfl) (by kernel_rfl)
instance : RowT Try.prog 28 8 := .mk' (by kernel_rfl) (by kernel_rfl)
instance : RowT Try.prog 29 64 := .mk' (by kernel_rfl) (by kernel_rfl)
instance : RowT Try.prog 61 64 := .mk' (by kernel_rfl) (by kernel_rfl)
theorem mixed : Try.prog.follows .mixedOrders = true := by kernel_rfl
/-- The first n words of w. -/
noncomputable def u32s (n : Nat) (w : Nat → Nat) : List Value := opq ((List.range n).map fun j => Value.int .u32 (w j : Int))
noncomputable def u8s (n : Nat) (w : Nat → Nat) : List Value := opq ((List.range n).map fun j => Value.int .u8 (w j : Int))
theorem u32s_def (n : Nat) (w : Nat → Nat) : u32s n w = (List.range n).map fun j => Value.int .u32 (w j : Int) := by unfold u32s; rw [opq_eq]
theorem u8s_def (n : Nat) (w : Nat → Nat) : u8s n w = (List.range n).map fun j => Value.int .u8 (w j : Int) := by unfold u8s; rw [opq_eq]
@[simp] theorem u32s_length (n : Nat) (w : Nat → Nat) : (u32s n w).length = n := by rw [u32s_def]; simp
@[simp] theorem u8s_length (n : Nat) (w : Nat → Nat) : (u8s n w).length = n := by rw [u8s_def]; simp
theorem u32s_at {n : Nat} {w : Nat → Nat} {i : Nat} (h : i < n) : (u32s n w)[i]? = some (.int .u32 (w i : Int)) := by rw [u32s_def]; simp [h]
theorem u8s_at {n : Nat} {w : Nat → Nat} {i : Nat} (h : i < n) : (u8s n w)[i]? = some (.int .u8 (w i : Int)) := by rw [u8s_def]; simp [h]
theorem u32s_set {n : Nat} {w v : Nat → Nat} {i x : Nat} (hx : v i = x) (h : ∀ j, j < n → j ≠ i → v j = w j) : (u32s n w).set i (.int .u32 (x : Int)) = u32s n v := by
  rw [u32s_def, u32s_def]
  refine List.ext_getElem? fun k => ?_
  rw [List.getElem?_set]
  simp only [List.length_map, List.length_range, List.getElem?_map]
  by_cases hk : k < n
  · by_cases e : i = k
    · subst e; simp [hk, hx]
    · rw [if_neg e]; simp [List.getElem?_range hk, h k hk (Ne.symm e)]
  · have : (List.range n)[k]? = none := by simp; omega
    by_cases e : i = k
    · subst e; simp [hk]
    · rw [if_neg e, this]; rfl
theorem u8s_set {n : Nat} {w v : Nat → Nat} {i x : Nat} (hx : v i = x) (h : ∀ j, j < n → j ≠ i → v j = w j) : (u8s n w).set i (.int .u8 (x : Int)) = u8s n v := by
  rw [u8s_def, u8s_def]
  refine List.ext_getElem? fun k => ?_
  rw [List.getElem?_set]
  simp only [List.length_map, List.length_range, List.getElem?_map]
  by_cases hk : k < n
  · by_cases e : i = k
    · subst e; simp [hk, hx]
    · rw [if_neg e]; simp [List.getElem?_range hk, h k hk (Ne.symm e)]
  · have : (List.range n)[k]? = none := by simp; omega
    by_cases e : i = k
    · subst e; simp [hk]
    · rw [if_neg e, this]; rfl
theorem u32s_congr {n : Nat} {w v : Nat → Nat} (h : ∀ j, j < n → w j = v j) : u32s n w = u32s n v := by
  rw [u32s_def, u32s_def]
  refine List.map_congr_left fun j hj => ?_
  rw [h j (List.mem_range.1 hj)]
theorem u8s_congr {n : Nat} {w v : Nat → Nat} (h : ∀ j, j < n → w j = v j) : u8s n w = u8s n v := by
  rw [u8s_def, u8s_def]
  refine List.map_congr_left fun j hj => ?_
  rw [h j (List.mem_range.1 hj)]
theorem u32s_one (n : Nat) (w : Nat → Nat) : (u32s n w).all (·.oneCell') = true := by
  rw [u32s_def]; simp [Value.oneCell']
theorem u8s_one (n : Nat) (w : Nat → Nat) : (u8s n w).all (·.oneCell') = true := by
  rw [u8s_def]; simp [Value.oneCell']
instance : ZeroT Try.prog 61 (u32s 64 fun _ => 0) := ⟨.agg (u32s 64 fun _ => 0).toArray, by rw [u32s_def]; kernel_rfl, rfl⟩
/-- A state's words. -/
noncomputable def s8V (a b c d e f g h : Nat) : List Value := [.int .u32 a, .int .u32 b, .int .u32 c, .int .u32 d, .int .u32 e, .int .u32 f, .int .u32 g, .int .u32 h]
noncomputable def s8L (s : S8) : List Value := s8V s.a s.b s.c s.d s.e s.f s.g s.h
/-- Word number i of a state. -/
def S8.get (s : S8) (i : Nat) : Nat := [s.a, s.b, s.c, s.d, s.e, s.f, s.g, s.h].getD i 0
noncomputable def getF (s : S8) : Nat → Nat := opq s.get
theorem getF_def (s : S8) (i : Nat) : getF s i = s.get i := by unfold getF; rw [opq_eq]
theorem s8L_row (s : S8) : s8L s = u32s 8 (getF s) := by
  rw [u32s_def]
  simp only [getF_def]
  rfl
theorem S8.get_lt {s : S8} (h : s.ok) (i : Nat) : s.get i < 4294967296 := by
  obtain ⟨h1, h2, h3, h4, h5, h6, h7, h8⟩ := h
  match i with
  | 0 => exact h1
  | 1 => exact h2
  | 2 => exact h3
  | 3 => exact h4
  | 4 => exact h5
  | 5 => exact h6
  | 6 => exact h7
  | 7 => exact h8
  | n + 8 => exact (by decide : 0 < 4294967296)
theorem getF_lt {s : S8} (h : s.ok) (i : Nat) : getF s i < 4294967296 := by rw [getF_def]; exact s.get_lt h i
/-- The first i words summed. -/
noncomputable def sumRow (t s : S8) (i : Nat) : List Value := u32s 8 fun j => if j < i then (getF t j + getF s j) % 4294967296 else getF t j
@[simp] theorem sumRow_length (t s : S8) (i : Nat) : (sumRow t s i).length = 8 := u32s_length _ _
theorem sumRow_zero (t s : S8) : sumRow t s 0 = s8L t := by rw [s8L_row]; rfl
theorem sumRow_all (t s : S8) : sumRow t s 8 = s8L (addS t s) := by
  rw [s8L_row]
  refine u32s_congr fun j hj => ?_
  rw [if_pos hj, getF_def, getF_def, getF_def]
  have : j = 0 ∨ j = 1 ∨ j = 2 ∨ j = 3 ∨ j = 4 ∨ j = 5 ∨ j = 6 ∨ j = 7 := by omega
  rcases this with rfl | rfl | rfl | rfl | rfl | rfl | rfl | rfl <;> rfl
theorem sumRow_at (t s : S8) {i : Nat} (h : i < 8) : (sumRow t s i)[i]? = some (.int .u32 (getF t i : Int)) := by
  unfold sumRow
  rw [u32s_at h, if_neg (by omega)]
theorem sumRow_set (t s : S8) {i x : Nat} (hx : (getF t i + getF s i) % 4294967296 = x) : (sumRow t s i).set i (.int .u32 (x : Int)) = sumRow t s (i + 1) := by
  unfold sumRow
  refine u32s_set (by rw [if_pos (by omega), hx]) fun j _ hj => ?_
  by_cases h : j < i
  · rw [if_pos h, if_pos (by omega)]
  · rw [if_neg h, if_neg (by omega)]
theorem s8L_length (s : S8) : (s8L s).length = 8 := rfl
theorem s8L_one (s : S8) : (s8L s).all (·.oneCell') = true := rfl
def zeroS : S8 := ⟨0, 0, 0, 0, 0, 0, 0, 0⟩
instance : ZeroT Try.prog 28 (s8L zeroS) := ⟨.agg (s8L zeroS).toArray, by kernel_rfl, rfl⟩
/-- A region by itself: what hangs on its order ends there. -/
theorem cut_region {P : Program} {c : Code} {Q : Exit → Act → World → Prop} {l : List Value} {d : List Deferred} {w w0 : World} {B0 : Nat} {L : List (Nat × Obj)} (hR : Rep B0 w0 L w) (mask : List Bool) (upd : List Value → List Value) (L' : List (Nat × Obj))
    (h1 : ∀ Q' : Act → World → Prop, Held (∀ tm w', agree mask (upd l) tm → Rep B0 w0 L' w' → Q' ⟨tm.toArray, d⟩ w') → c.wp P (Exit.then Q' fun _ _ _ => False) ⟨l.toArray, d⟩ w)
    (h2 : ∀ tm w', agree mask (upd l) tm → Rep B0 w0 L' w' → Q .normal ⟨tm.toArray, d⟩ w') : c.wp P Q ⟨l.toArray, d⟩ w := by
  refine Code.wp_mono (fun e a w' h => ?_) (h1 (fun a w' => Q .normal a w') ⟨h2⟩)
  cases e <;> first | exact h | exact h.elim
/-- An array by value, at an index. -/
theorem index_row {P : Program} {ty el : TypeId} {n : Nat} (hu : P.underlying ty = some (.array n el)) (hT : CellT P el) {cs : Array Value} {k : Nat} {v : Value} (hk : k < n) (hv : cs[k]? = some v) (w : World) : (Instr.index ty (.agg cs) (.int .i64 (k : Int))).run P w = .ok v w := by
  obtain ⟨d, hd, hr, hi⟩ := hT.is
  have hagg : (isAgg el).run P w = .ok false w := by
    unfold isAgg
    rw [Sem.run_bind, run_underlying hd w]
    cases d <;> simp_all
  have hsz : (sizeOf el).run P w = .ok 1 w := by
    cases hq : P.info? el with
    | none => simp [hq] at hi
    | some i =>
      have hs1 : i.size = 1 := by simpa [hq] using hi
      simp [sizeOf, typeInfo, hq, hs1]
  simp [Instr.index, asIntOf, run_underlying hu, hk, Sem.run_bind, hsz, part, hagg, hv]
theorem be4_int (a b c d : Nat) (ha : a < 256) (hb : b < 256) (hc : c < 256) (hd : d < 256) :
    bits BinOp.or IntKind.u32 (bits BinOp.or IntKind.u32 (bits BinOp.or IntKind.u32 (IntKind.u32.wrap (IntKind.u32.wrap (a : Int) * 16777216)) (IntKind.u32.wrap (IntKind.u32.wrap (b : Int) * 65536))) (IntKind.u32.wrap (IntKind.u32.wrap (c : Int) * 256))) (IntKind.u32.wrap (d : Int)) = ((be4 a b c d : Nat) : Int) := by
  have e : ∀ x : Nat, x < 256 → IntKind.u32.wrap (x : Int) = (x : Int) := fun x hx => by rw [IntKind.wrap_u32]; omega
  have e1 : IntKind.u32.wrap ((a : Int) * 16777216) = ((2 ^ 24 * a : Nat) : Int) := by rw [IntKind.wrap_u32]; omega
  have e2 : IntKind.u32.wrap ((b : Int) * 65536) = ((b * 65536 : Nat) : Int) := by rw [IntKind.wrap_u32]; omega
  have e3 : IntKind.u32.wrap ((c : Int) * 256) = ((c * 256 : Nat) : Int) := by rw [IntKind.wrap_u32]; omega
  rw [e a ha, e b hb, e c hc, e d hd, e1, e2, e3, u32_or _ _ (by omega) (by omega), ← Nat.two_pow_add_eq_or_of_lt (i := 24) (by omega) a]
  rw [show 2 ^ 24 * a + b * 65536 = 2 ^ 16 * (256 * a + b) by omega, u32_or _ _ (by omega) (by omega), ← Nat.two_pow_add_eq_or_of_lt (i := 16) (by omega) (256 * a + b)]
  rw [show 2 ^ 16 * (256 * a + b) + c * 256 = 2 ^ 8 * (65536 * a + 256 * b + c) by omega, u32_or _ _ (by omega) (by omega), ← Nat.two_pow_add_eq_or_of_lt (i := 8) (by omega) (65536 * a + 256 * b + c)]
  unfold be4
  omega
end Go.Proofs.Ytllmpiamcghboaa
