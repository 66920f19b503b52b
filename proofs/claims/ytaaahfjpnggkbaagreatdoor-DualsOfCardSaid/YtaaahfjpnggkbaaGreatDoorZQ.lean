import Derived.Test.YtaaahfjpnggkbaaGreatDoorZA
import Derived.Test.YtaaahfjpnggkbaaGreatDoorZScalOf
import Derived.Test.YtaaahfjpnggkbaaGreatDoorZI
import Derived.Test.YtaaahfjpnggkbaaGreatDoorZK2
set_option linter.unusedSimpArgs false
set_option linter.unusedVariables false
set_option maxRecDepth 100000
set_option maxHeartbeats 20000000
namespace Go.Proofs.YtaaahfjpnggkbaaGreatDoor
open Go.RowKit
section
section
variable {q : Nat} [NeZero q]
def H (P : Nat → Fin q) : Nat → Fin q → Fin q
 | 0, _ => 0
 | n + 1, x => P 0 + x * H (fun j => P (j + 1)) n x
theorem H_congr {P Q : Nat → Fin q} : ∀ {n : Nat}, (∀ j, j < n → P j = Q j) → ∀ x, H P n x = H Q n x := by
 intro n
 induction n generalizing P Q with
 | zero => intro _ x; rfl
 | succ n ih =>
  intro h x
  rw [H, H, h 0 (by omega), ih (fun j hj => h (j + 1) (by omega))]
theorem H_last {P : Nat → Fin q} : ∀ (n : Nat) (x : Fin q), H P (n + 1) x = H P n x + P n * x ^ n := by
 intro n
 induction n generalizing P with
 | zero => intro x; simp only [H]; grind
 | succ n ih =>
  intro x
  rw [H, ih, H]
  grind
omit [NeZero q] in
end
end
section
attribute [local irreducible] Calls
theorem so_lit {p q g h r : Nat} {n : Int} (hq : q < B) (b0 : -9223372036854775808 ≤ n) (b1 : n < 9223372036854775808) (hr : sOf q n = r) (w : World) : Calls Tryz.prog 103 #[grp p q g h, .int .i64 n] w fun e w' =>
  e = .returned (num r) ∧ Below w.heap.size w w' := by
 have := sof_any p q g h n hq b0 b1 w
 rwa [hr] at this
end
section
theorem sOf_one {q : Nat} (h : 1 < q) : sOf q 1 = 1 := by
 have a := sOf_cast h 1
 rw [Int.emod_eq_of_lt (by decide) (by omega)] at a
 omega
section
variable {p q g h : Nat}
theorem SM {x y z : Nat} (hq : q < B) (h1 : 1 < q) (hx : x < q) (hy : y < q) (hz : mulN x y q = z) : ∀ w, Calls Tryz.prog 105 #[grp p q g h, num x, num y] w fun e' w' => e' = .returned (.tuple #[num z, .int .i64 0]) ∧ Below w.heap.size w w' :=
 smul_lit (by omega) (by omega) hq (by rw [if_pos ⟨h1, hx, hy⟩]; exact hz) (if_pos ⟨h1, hx, hy⟩)
theorem SI {x z : Nat} (hq : q < B) (h1 : 1 < q) (hx : x < q) (hg : Nat.gcd x q = 1) (hz : invM x q = z) : ∀ w, Calls Tryz.prog 106 #[grp p q g h, num x] w fun e' w' => e' = .returned (.tuple #[num z, .int .i64 0]) ∧ Below w.heap.size w w' :=
 sinv_lit (by omega) hq (by rw [if_pos (show okE x q from ⟨h1, hx⟩)]; exact hz) (by unfold invE; rw [if_pos (show okE x q from ⟨h1, hx⟩), if_pos hg])
theorem SO {n : Int} {r : Nat} (hq : q < B) (b0 : -9223372036854775808 ≤ n) (b1 : n < 9223372036854775808) (hr : sOf q n = r) : ∀ w, Calls Tryz.prog 103 #[grp p q g h, .int .i64 n] w fun e w' => e = .returned (num r) ∧ Below w.heap.size w w' :=
 so_lit hq b0 b1 hr
end
end
section
section
variable {q : Nat} [NeZero q]
def fi (q : Nat) [NeZero q] (a : Nat) : Fin q := Fin.ofNat q a
theorem xHi (a : Nat) : (fi q a).val = a % q := rfl
theorem fi_inj {a b : Nat} (ha : a < q) (hb : b < q) (h : fi q a = fi q b) : a = b := by
 have := congrArg Fin.val h
 rw [xHi, xHi, Nat.mod_eq_of_lt ha, Nat.mod_eq_of_lt hb] at this
 exact this
theorem fi_mod (a : Nat) : fi q (a % q) = fi q a := Fin.ext (by rw [xHi, xHi, Nat.mod_mod])
theorem fi_add (a b : Nat) : fi q (a + b) = fi q a + fi q b := Fin.ext (by rw [Fin.val_add, xHi, xHi, xHi]; simp [Nat.add_mod])
theorem fi_mul (a b : Nat) : fi q (a * b) = fi q a * fi q b := Fin.ext (by rw [Fin.val_mul, xHi, xHi, xHi]; simp [Nat.mul_mod])
theorem fi_zero : fi q 0 = 0 := Fin.ext (by rw [xHi]; simp)
theorem fi_mulN (a b : Nat) : fi q (mulN a b q) = fi q a * fi q b := by rw [xCe, fi_mod, fi_mul]
theorem fi_addN (a b : Nat) : fi q ((a + b) % q) = fi q a + fi q b := by rw [fi_mod, fi_add]
theorem fi_one (h1 : 1 < q) : fi q (sOf q 1) = 1 := Fin.ext (by rw [xHi, sOf_one h1]; rw [Nat.mod_eq_of_lt h1]; exact (Nat.mod_eq_of_lt h1).symm)
theorem fi_hv {n : Nat} (zs : Nat → Nm q) (x : Nat) : ∀ k, k ≤ n → fi q (hvL x (dnN n zs (n - k))) = H (fun t => fi q (zs (n - k + t)).1) k (fi q x)
  | 0, _ => by rw [Nat.sub_zero, dnN_top, hvL_nil, fi_zero]; rfl
  | k + 1, h => by
    have ih := fi_hv (n := n) zs x k (by omega)
    rw [dnN_succ n zs (show n - (k + 1) < n by omega), hvL_snoc, fi_addN, fi_mulN, show n - (k + 1) + 1 = n - k by omega, ih, H, Nat.add_zero]
    have e : H (fun t => fi q (zs (n - k + t)).1) k (fi q x) = H (fun j => (fun t => fi q (zs (n - (k + 1) + t)).1) (j + 1)) k (fi q x) := H_congr (fun t _ => by show fi q (zs (n - k + t)).1 = fi q (zs (n - (k + 1) + (t + 1))).1; rw [show n - (k + 1) + (t + 1) = n - k + t by omega]) _
    rw [e]
    grind
theorem fi_at {n : Nat} (zs : Nat → Nm q) {f : Nat → Nat} (hz : ∀ j, j < n → (zs j).1 = f j) (x : Nat) : fi q (hvL x (dnN n zs 0)) = H (fun j => fi q (f j)) n (fi q x) := by
 have := fi_hv zs x n (Nat.le_refl n)
 rw [Nat.sub_self] at this
 rw [this]
 exact H_congr (fun t ht => by show fi q (zs (0 + t)).1 = _; rw [Nat.zero_add, hz t ht]) _
omit [NeZero q] in
end
end
section
attribute [local irreducible] Calls
section
variable {p q g h : Nat} {B0 : Nat} {w0 w : World} {L : List (Nat × Obj)} {a b : Option Addr} {n m cp cq : Nat} {f V : Nat → Nat} {x : Nat}
theorem NAt.here (hA : NAt B0 w0 L a n cp f) (hR : Rep B0 w0 L w) : NAt w.heap.size w [] a n cp f :=
 ⟨hA.lec, hA.big, hA.lt, fun hn => by
  obtain ⟨b, o, q1, q2⟩ := hA.at' hn
  exact ⟨b, o, q1, fun w' hw => q2 w' (hR.join hw)⟩⟩
def zsOf (hq : 0 < q) (f : Nat → Nat) (j : Nat) : Nm q := if h : f j < q then ⟨f j, h⟩ else ⟨0, hq⟩
noncomputable def atN (q : Nat) (f : Nat → Nat) (n x : Nat) : Nat := if hq : 0 < q then hvL x (dnN n (zsOf hq f) 0) else 0
theorem atN_lt (h1 : 1 < q) (f : Nat → Nat) (n x : Nat) : atN q f n x < q := by
 unfold atN
 rw [dif_pos (by omega)]
 exact hvL_lt h1 _ _
def okA (q n : Nat) (f : Nat → Nat) (x : Nat) : Prop := (1 < q ∧ ∀ j, j < n → f j < q) ∧ x < q
theorem at_yes (hp : p < B) (hq : q < B) (hn : n ≤ 1000) (hA : NAt B0 w0 L a n cp f) (hok : okA q n f x) (hR : Rep B0 w0 L w) : Calls Tryz.prog 8 #[grp p q g h, .slice a n cp, num x] w fun en w' => en = .returned (.tuple #[num (atN q f n x), .int .i64 0]) ∧ Rep B0 w0 L w' := by
 obtain ⟨⟨h1, hf⟩, hx⟩ := hok
 have hq0 : 0 < q := by omega
 refine (at_go (g := g) (h := h) hp hq (hA.here hR) (by omega) h1 hf hx (zsOf hq0 f) (fun j hj => by unfold zsOf; rw [dif_pos (hf j hj)])).mono fun e w' ⟨h1, h2⟩ => ⟨?_, hR.call h2⟩
 rw [h1]
 unfold atN
 rw [dif_pos hq0]
theorem at_no (hp : p < B) (hq : q < B) (hx : x < B) (hn : n ≤ 1000) (hA : NAt B0 w0 L a n cp f) (hok : ¬ okA q n f x) (hR : Rep B0 w0 L w) : Calls Tryz.prog 8 #[grp p q g h, .slice a n cp, num x] w fun en w' => en = .returned (.tuple #[num 0, .int .i64 1]) ∧ Rep B0 w0 L w' :=
 (at_bad (g := g) (h := h) hp hq hx (hA.here hR) (by omega) hok).mono fun e w' ⟨h1, h2⟩ => ⟨h1, hR.call h2⟩
end
end
end Go.Proofs.YtaaahfjpnggkbaaGreatDoor
