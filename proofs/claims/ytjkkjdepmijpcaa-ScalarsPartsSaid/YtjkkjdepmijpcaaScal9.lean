/- What the laws of layer 9 want of plain numbers. -/
import Derived.Test.YtjkkjdepmijpcaaLaw09
set_option linter.unusedSimpArgs false
set_option linter.unusedVariables false
namespace Go.Proofs.Ytjkkjdepmijpcaa
open Go.RowKit

theorem sOf_add {q : Nat} (h : 1 < q) (m n : Int) : (sOf q m + sOf q n) % q = sOf q (m + n) := by
  have a := sOf_cast h m; have b := sOf_cast h n; have c := sOf_cast h (m + n)
  have e : (((sOf q m + sOf q n) % q : Nat) : Int) = (m + n) % (q : Int) := by
    rw [Int.natCast_emod, Int.natCast_add, a, b, ← Int.add_emod]
  omega
theorem sOf_sub {q : Nat} (h : 1 < q) (m n : Int) : subN (sOf q m) (sOf q n) q = sOf q (m - n) := by
  have a := sOf_cast h m; have b := sOf_cast h n; have c := sOf_cast h (m - n); have l := sOf_lt h n
  have e : ((subN (sOf q m) (sOf q n) q : Nat) : Int) = (m - n) % (q : Int) := by
    rw [subN_def, Int.natCast_emod, Int.natCast_add, Int.natCast_sub (by omega), a, b]
    have : m % (q : Int) + ((q : Int) - n % (q : Int)) = (m % (q : Int) - n % (q : Int)) + (q : Int) := by omega
    rw [this, Int.add_emod_right, ← Int.sub_emod]
  omega
theorem sOf_mul {q : Nat} (h : 1 < q) (m n : Int) : mulN (sOf q m) (sOf q n) q = sOf q (m * n) := by
  have a := sOf_cast h m; have b := sOf_cast h n; have c := sOf_cast h (m * n)
  have e : ((mulN (sOf q m) (sOf q n) q : Nat) : Int) = (m * n) % (q : Int) := by
    rw [mulN_def, Int.natCast_emod, Int.natCast_mul, a, b, ← Int.mul_emod]
  omega
theorem sOf_one {q : Nat} (h : 1 < q) : sOf q 1 = 1 := by
  have a := sOf_cast h 1
  rw [Int.emod_eq_of_lt (by decide) (by omega)] at a
  omega
theorem sOf_nought {q : Nat} (h : 1 < q) : sOf q 0 = 0 := by
  have a := sOf_cast h 0
  rw [Int.zero_emod] at a
  omega

section
variable {p q g h : Nat}
/-- Sums, products, differences, inverses below q. -/
theorem SA {x y z : Nat} (hq : q < B) (h1 : 1 < q) (hx : x < q) (hy : y < q) (hz : (x + y) % q = z) : ∀ w, Calls Try.prog 16 #[grp p q g h, num x, num y] w fun e' w' => e' = .returned (.tuple #[num z, .int .i64 0]) ∧ Below w.heap.size w w' :=
  sadd_lit (by omega) (by omega) hq (by rw [if_pos ⟨h1, hx, hy⟩]; exact hz) (if_pos ⟨h1, hx, hy⟩)
theorem SS {x y z : Nat} (hq : q < B) (h1 : 1 < q) (hx : x < q) (hy : y < q) (hz : subN x y q = z) : ∀ w, Calls Try.prog 17 #[grp p q g h, num x, num y] w fun e' w' => e' = .returned (.tuple #[num z, .int .i64 0]) ∧ Below w.heap.size w w' :=
  ssub_lit (by omega) (by omega) hq (by rw [if_pos ⟨h1, hx, hy⟩]; exact hz) (if_pos ⟨h1, hx, hy⟩)
theorem SM {x y z : Nat} (hq : q < B) (h1 : 1 < q) (hx : x < q) (hy : y < q) (hz : mulN x y q = z) : ∀ w, Calls Try.prog 18 #[grp p q g h, num x, num y] w fun e' w' => e' = .returned (.tuple #[num z, .int .i64 0]) ∧ Below w.heap.size w w' :=
  smul_lit (by omega) (by omega) hq (by rw [if_pos ⟨h1, hx, hy⟩]; exact hz) (if_pos ⟨h1, hx, hy⟩)
theorem SI {x z : Nat} (hq : q < B) (h1 : 1 < q) (hx : x < q) (hg : Nat.gcd x q = 1) (hz : invM x q = z) : ∀ w, Calls Try.prog 19 #[grp p q g h, num x] w fun e' w' => e' = .returned (.tuple #[num z, .int .i64 0]) ∧ Below w.heap.size w w' :=
  sinv_lit (by omega) hq (by rw [if_pos (show okE x q from ⟨h1, hx⟩)]; exact hz) (by unfold invE; rw [if_pos (show okE x q from ⟨h1, hx⟩), if_pos hg])
theorem SO {n : Int} {r : Nat} (hq : q < B) (b0 : -9223372036854775808 ≤ n) (b1 : n < 9223372036854775808) (hr : sOf q n = r) : ∀ w, Calls Try.prog 15 #[grp p q g h, .int .i64 n] w fun e w' => e = .returned (num r) ∧ Below w.heap.size w w' :=
  so_lit hq b0 b1 hr
end
end Go.Proofs.Ytjkkjdepmijpcaa
