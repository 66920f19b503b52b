/- Polynomials over the numbers modulo q, in plain terms. Nothing of the program is named here. -/
import Derived.Test.YtgfoeongjhkdmaaUA
import Derived.Test.YtgfoeongjhkdmaaUScalOf
import Derived.Test.YtgfoeongjhkdmaaUI
import Derived.Test.YtgfoeongjhkdmaaUPThr
import Derived.Test.YtgfoeongjhkdmaaUZ
set_option linter.unusedVariables false
set_option linter.unusedSimpArgs false
namespace Go.Proofs.Ytgfoeongjhkdmaa
section
variable {q : Nat} [NeZero q]
def H (P : Nat → Fin q) : Nat → Fin q → Fin q
  | 0, _ => 0
  | n + 1, x => P 0 + x * H (fun j => P (j + 1)) n x
theorem H_congr {P Q : Nat → Fin q} : ∀ {n : Nat}, (∀ j, j < n → P j = Q j) → ∀ x, H P n x = H Q n x := by
  intro n
  induction n generalizing P Q with
  | zero => intro _ x; rfl
  | succ n ih =>
    intro h x
    rw [H, H, h 0 (by omega), ih (fun j hj => h (j + 1) (by omega))]
theorem H_add {P Q : Nat → Fin q} : ∀ (n : Nat) (x : Fin q), H (fun j => P j + Q j) n x = H P n x + H Q n x := by
  intro n
  induction n generalizing P Q with
  | zero => intro x; simp only [H]; grind
  | succ n ih =>
    intro x
    rw [H, H, H, ih]
    grind
theorem H_sub {P Q : Nat → Fin q} : ∀ (n : Nat) (x : Fin q), H (fun j => P j - Q j) n x = H P n x - H Q n x := by
  intro n
  induction n generalizing P Q with
  | zero => intro x; simp only [H]; grind
  | succ n ih =>
    intro x
    rw [H, H, H, ih]
    grind
theorem H_zero : ∀ (n : Nat) (x : Fin q), H (fun _ => (0 : Fin q)) n x = 0 := by
  intro n
  induction n with
  | zero => intro x; rfl
  | succ n ih =>
    intro x
    rw [H, ih]
    grind
theorem H_last {P : Nat → Fin q} : ∀ (n : Nat) (x : Fin q), H P (n + 1) x = H P n x + P n * x ^ n := by
  intro n
  induction n generalizing P with
  | zero => intro x; simp only [H]; grind
  | succ n ih =>
    intro x
    rw [H, ih, H]
    grind
theorem H_pad {P : Nat → Fin q} {m : Nat} : ∀ (n : Nat) (x : Fin q), m ≤ n → (∀ j, m ≤ j → j < n → P j = 0) → H P n x = H P m x := by
  intro n
  induction n with
  | zero => intro x h _; obtain rfl : m = 0 := by omega
            rfl
  | succ n ih =>
    intro x h hz
    by_cases e : m = n + 1
    · rw [e]
    · rw [H_last, hz n (by omega) (by omega), ih x (by omega) (fun j h1 h2 => hz j h1 (by omega))]
      grind
def lonR (b : Fin q) : Nat → Fin q → (Nat → Fin q) → Nat → Fin q
  | 0, c, _, _ => c
  | _ + 1, c, P, 0 => c - P 0 * b
  | m + 1, _, P, j + 1 => lonR b m (P 0) (fun j => P (j + 1)) j
theorem H_lon (b : Fin q) : ∀ (m : Nat) (c : Fin q) (P : Nat → Fin q) (x : Fin q), H (lonR b m c P) (m + 1) x = c + (x - b) * H P m x
  | 0, c, P, x => by simp only [H, lonR]; grind
  | m + 1, c, P, x => by
    have ih := H_lon b m (P 0) (fun j => P (j + 1)) x
    have e : (fun j => lonR b (m + 1) c P (j + 1)) = lonR b m (P 0) (fun j => P (j + 1)) := rfl
    rw [H, e, ih, H, lonR]
    grind
omit [NeZero q] in
theorem lonR_at (b : Fin q) : ∀ (m : Nat) (c : Fin q) (P : Nat → Fin q) (j : Nat), j ≤ m → lonR b m c P j = if j < m then (if j = 0 then c else P (j - 1)) - P j * b else (if j = 0 then c else P (j - 1))
  | 0, c, P, j, h => by
    obtain rfl : j = 0 := by omega
    simp [lonR]
  | m + 1, c, P, 0, h => by simp [lonR]
  | m + 1, c, P, j + 1, h => by
    rw [lonR, lonR_at b m _ _ j (by omega)]
    cases j <;> simp
def divR (r : Fin q) (D : Nat → Fin q) (n j : Nat) : Fin q := H (fun t => D (t + j + 1)) (n - j) r
theorem H_div (r : Fin q) : ∀ (n : Nat) (D : Nat → Fin q) (x : Fin q), H D (n + 1) x = H D (n + 1) r + (x - r) * H (divR r D n) n x
  | 0, D, x => by simp only [H]; grind
  | n + 1, D, x => by
    have ih := H_div r n (fun j => D (j + 1)) x
    have e : ∀ j, j < n → (fun j => divR r D (n + 1) (j + 1)) j = divR r (fun j => D (j + 1)) n j := fun j hj => by
      show H _ _ _ = H _ _ _
      rw [show n + 1 - (j + 1) = n - j by omega]
      exact H_congr (fun t _ => by rw [show t + (j + 1) + 1 = t + j + 1 + 1 by omega]) r
    have e0 : divR r D (n + 1) 0 = H (fun j => D (j + 1)) (n + 1) r := rfl
    rw [H, ih, show H (divR r D (n + 1)) (n + 1) x = divR r D (n + 1) 0 + x * H (fun j => divR r D (n + 1) (j + 1)) n x from rfl, H_congr e, e0, show H D (n + 1 + 1) r = D 0 + r * H (fun j => D (j + 1)) (n + 1) r from rfl]
    grind
theorem H_none : ∀ (n : Nat) (D : Nat → Fin q) (l : Nat → Fin q), (∀ i j, i < n → j < n → i ≠ j → ∃ v, (l i - l j) * v = 1) → (∀ i, i < n → H D n (l i) = 0) → ∀ j, j < n → D j = 0
  | 0, _, _, _, _, j, hj => absurd hj (by omega)
  | n + 1, D, l, hd, h0, j, hj => by
    have hS := H_none n (divR (l 0) D n) (fun i => l (i + 1)) (fun i k hi hk hik => hd (i + 1) (k + 1) (by omega) (by omega) (by omega)) (fun i hi => by
      have h1 := H_div (l 0) n D (l (i + 1))
      rw [h0 (i + 1) (by omega), h0 0 (by omega)] at h1
      obtain ⟨v, hv⟩ := hd (i + 1) 0 (by omega) (by omega) (by omega)
      generalize H (divR (l 0) D n) n (l (i + 1)) = s at *
      grind)
    have hr : ∀ i, i < n → D (i + 1) = divR (l 0) D n i - l 0 * divR (l 0) D n (i + 1) := fun i hi => by
      unfold divR
      rw [show n - i = (n - (i + 1)) + 1 by omega, H]
      have e : H (fun t => D (t + (i + 1) + 1)) (n - (i + 1)) (l 0) = H (fun j => (fun t => D (t + i + 1)) (j + 1)) (n - (i + 1)) (l 0) := H_congr (fun t _ => by show D _ = D _; rw [show t + (i + 1) + 1 = t + 1 + i + 1 by omega]) _
      rw [e, show D (0 + i + 1) = D (i + 1) by rw [Nat.zero_add]]
      grind
    have hend : divR (l 0) D n n = 0 := by unfold divR; rw [Nat.sub_self]; rfl
    have hall : ∀ i, i ≤ n → divR (l 0) D n i = 0 := fun i hi => by
      by_cases e : i = n
      · rw [e]; exact hend
      · exact hS i (by omega)
    cases j with
    | succ j =>
      rw [hr j (by omega), hall j (by omega), hall (j + 1) (by omega)]
      grind
    | zero =>
      have h1 := h0 0 (by omega)
      rw [H] at h1
      have e : H (fun j => D (j + 1)) n (l 0) = divR (l 0) D n 0 := rfl
      rw [e, hall 0 (by omega)] at h1
      grind
end
end Go.Proofs.Ytgfoeongjhkdmaa
namespace Go.Proofs.Ytgfoeongjhkdmaa
open Go.RowKit
attribute [local irreducible] Calls
theorem so_lit {p q g h r : Nat} {n : Int} (hq : q < B) (b0 : -9223372036854775808 ≤ n) (b1 : n < 9223372036854775808) (hr : sOf q n = r) (w : World) : Calls Try.prog 13 #[grp p q g h, .int .i64 n] w fun e w' =>
    e = .returned (num r) ∧ Below w.heap.size w w' := by
  have := sof_any p q g h n hq b0 b1 w
  rwa [hr] at this
end Go.Proofs.Ytgfoeongjhkdmaa
namespace Go.Proofs.Ytgfoeongjhkdmaa
open Go.RowKit
theorem sOf_sub {q : Nat} (h : 1 < q) (m n : Int) : subN (sOf q m) (sOf q n) q = sOf q (m - n) := by
  have a := sOf_cast h m; have b := sOf_cast h n; have c := sOf_cast h (m - n); have l := sOf_lt h n
  have e : ((subN (sOf q m) (sOf q n) q : Nat) : Int) = (m - n) % (q : Int) := by
    rw [subN_def, Int.natCast_emod, Int.natCast_add, Int.natCast_sub (by omega), a, b]
    have : m % (q : Int) + ((q : Int) - n % (q : Int)) = (m % (q : Int) - n % (q : Int)) + (q : Int) := by omega
    rw [this, Int.add_emod_right, ← Int.sub_emod]
  omega
theorem sOf_one {q : Nat} (h : 1 < q) : sOf q 1 = 1 := by
  have a := sOf_cast h 1
  rw [Int.emod_eq_of_lt (by decide) (by omega)] at a
  omega
section
variable {p q g h : Nat}
theorem SA {x y z : Nat} (hq : q < B) (h1 : 1 < q) (hx : x < q) (hy : y < q) (hz : (x + y) % q = z) : ∀ w, Calls Try.prog 14 #[grp p q g h, num x, num y] w fun e' w' => e' = .returned (.tuple #[num z, .int .i64 0]) ∧ Below w.heap.size w w' :=
  sadd_lit (by omega) (by omega) hq (by rw [if_pos ⟨h1, hx, hy⟩]; exact hz) (if_pos ⟨h1, hx, hy⟩)
theorem SM {x y z : Nat} (hq : q < B) (h1 : 1 < q) (hx : x < q) (hy : y < q) (hz : mulN x y q = z) : ∀ w, Calls Try.prog 15 #[grp p q g h, num x, num y] w fun e' w' => e' = .returned (.tuple #[num z, .int .i64 0]) ∧ Below w.heap.size w w' :=
  smul_lit (by omega) (by omega) hq (by rw [if_pos ⟨h1, hx, hy⟩]; exact hz) (if_pos ⟨h1, hx, hy⟩)
theorem SI {x z : Nat} (hq : q < B) (h1 : 1 < q) (hx : x < q) (hg : Nat.gcd x q = 1) (hz : invM x q = z) : ∀ w, Calls Try.prog 17 #[grp p q g h, num x] w fun e' w' => e' = .returned (.tuple #[num z, .int .i64 0]) ∧ Below w.heap.size w w' :=
  sinv_lit (by omega) hq (by rw [if_pos (show okE x q from ⟨h1, hx⟩)]; exact hz) (by unfold invE; rw [if_pos (show okE x q from ⟨h1, hx⟩), if_pos hg])
theorem SO {n : Int} {r : Nat} (hq : q < B) (b0 : -9223372036854775808 ≤ n) (b1 : n < 9223372036854775808) (hr : sOf q n = r) : ∀ w, Calls Try.prog 13 #[grp p q g h, .int .i64 n] w fun e w' => e = .returned (num r) ∧ Below w.heap.size w w' :=
  so_lit hq b0 b1 hr
end
end Go.Proofs.Ytgfoeongjhkdmaa
namespace Go.Proofs.Ytgfoeongjhkdmaa
open Go.RowKit
section
variable {q : Nat} [NeZero q]
def fi (q : Nat) [NeZero q] (a : Nat) : Fin q := Fin.ofNat q a
theorem fi_val (a : Nat) : (fi q a).val = a % q := rfl
theorem fi_inj {a b : Nat} (ha : a < q) (hb : b < q) (h : fi q a = fi q b) : a = b := by
  have := congrArg Fin.val h
  rw [fi_val, fi_val, Nat.mod_eq_of_lt ha, Nat.mod_eq_of_lt hb] at this
  exact this
theorem fi_mod (a : Nat) : fi q (a % q) = fi q a := Fin.ext (by rw [fi_val, fi_val, Nat.mod_mod])
theorem fi_of (x : Fin q) : fi q x.val = x := Fin.ext (by rw [fi_val, Nat.mod_eq_of_lt x.isLt])
theorem fi_add (a b : Nat) : fi q (a + b) = fi q a + fi q b := Fin.ext (by rw [Fin.val_add, fi_val, fi_val, fi_val]; simp [Nat.add_mod])
theorem fi_mul (a b : Nat) : fi q (a * b) = fi q a * fi q b := Fin.ext (by rw [Fin.val_mul, fi_val, fi_val, fi_val]; simp [Nat.mul_mod])
theorem fi_zero : fi q 0 = 0 := Fin.ext (by rw [fi_val]; simp)
theorem fi_mulN (a b : Nat) : fi q (mulN a b q) = fi q a * fi q b := by rw [mulN_def, fi_mod, fi_mul]
theorem fi_addN (a b : Nat) : fi q ((a + b) % q) = fi q a + fi q b := by rw [fi_mod, fi_add]
theorem fi_self : fi q q = 0 := Fin.ext (by rw [fi_val]; simp)
theorem fi_subN {a b : Nat} (hb : b < q) : fi q (subN a b q) = fi q a - fi q b := by
  rw [subN_def, fi_addN]
  have h : fi q b + fi q (q - b) = 0 := by rw [← fi_add, show b + (q - b) = q by omega, fi_self]
  generalize fi q (q - b) = t at *
  generalize fi q b = s at *
  grind
theorem fi_one (h1 : 1 < q) : fi q (sOf q 1) = 1 := Fin.ext (by rw [fi_val, sOf_one h1]; rw [Nat.mod_eq_of_lt h1]; exact (Nat.mod_eq_of_lt h1).symm)
theorem fi_one' (h1 : 1 < q) : fi q 1 = 1 := by rw [← fi_one h1, sOf_one h1]
theorem fi_inv {a : Nat} (h1 : 1 < q) (ha : a < q) (hg : Nat.gcd a q = 1) : fi q a * fi q (invM a q) = 1 := by
  rw [← fi_mul, ← fi_mod, Nat.mul_comm, (invM_spec h1 ha hg).2, fi_one' h1]
theorem fi_unit {a : Nat} (h1 : 1 < q) {v : Fin q} (h : fi q a * v = 1) : Nat.gcd a q = 1 := by
  have e : a * v.val % q = 1 := by
    have h2 : fi q (a * v.val) = fi q 1 := by rw [fi_mul, fi_of, h, fi_one' h1]
    have := congrArg Fin.val h2
    rw [fi_val, fi_val, Nat.mod_eq_of_lt h1] at this
    exact this
  have hd : Nat.gcd a q ∣ 1 := by
    have d1 : Nat.gcd a q ∣ a * v.val := Nat.dvd_trans (Nat.gcd_dvd_left a q) (Nat.dvd_mul_right a v.val)
    have := (Nat.dvd_mod_iff (Nat.gcd_dvd_right a q)).2 d1
    rw [e] at this
    exact this
  exact Nat.dvd_one.1 hd
theorem fi_hv {n : Nat} (zs : Nat → Nm q) (x : Nat) : ∀ k, k ≤ n → fi q (hvL x (dnN n zs (n - k))) = H (fun t => fi q (zs (n - k + t)).1) k (fi q x)
  | 0, _ => by rw [Nat.sub_zero, dnN_top, hvL_nil, fi_zero]; rfl
  | k + 1, h => by
    have ih := fi_hv (n := n) zs x k (by omega)
    rw [dnN_succ n zs (show n - (k + 1) < n by omega), hvL_snoc, fi_addN, fi_mulN, show n - (k + 1) + 1 = n - k by omega, ih, H, Nat.add_zero]
    have e : H (fun t => fi q (zs (n - k + t)).1) k (fi q x) = H (fun j => (fun t => fi q (zs (n - (k + 1) + t)).1) (j + 1)) k (fi q x) := H_congr (fun t _ => by show fi q (zs (n - k + t)).1 = fi q (zs (n - (k + 1) + (t + 1))).1; rw [show n - (k + 1) + (t + 1) = n - k + t by omega]) _
    rw [e]
    grind
theorem fi_at {n : Nat} (zs : Nat → Nm q) {f : Nat → Nat} (hz : ∀ j, j < n → (zs j).1 = f j) (x : Nat) : fi q (hvL x (dnN n zs 0)) = H (fun j => fi q (f j)) n (fi q x) := by
  have := fi_hv zs x n (Nat.le_refl n)
  rw [Nat.sub_self] at this
  rw [this]
  exact H_congr (fun t ht => by show fi q (zs (0 + t)).1 = _; rw [Nat.zero_add, hz t ht]) _
def PS (G : Nat → Fin q) (i : Nat) : Nat → Fin q
  | 0 => 1
  | k + 1 => if k = i then PS G i k else PS G i k * G k
theorem PS_congr {G G' : Nat → Fin q} {i : Nat} : ∀ k, (∀ t, t < k → t ≠ i → G t = G' t) → PS G i k = PS G' i k
  | 0, _ => rfl
  | k + 1, h => by
    unfold PS
    rw [PS_congr k (fun t h1 h2 => h t (by omega) h2)]
    split
    · rfl
    · rename_i hk
      rw [h k (by omega) hk]
theorem PS_zero {G : Nat → Fin q} {i j : Nat} (hij : j ≠ i) (h0 : G j = 0) : ∀ k, j < k → PS G i k = 0
  | 0, h => absurd h (by omega)
  | k + 1, h => by
    unfold PS
    by_cases e : j = k
    · subst e
      rw [if_neg hij, h0]
      grind
    · rw [PS_zero hij h0 k (by omega)]
      split
      · rfl
      · grind
theorem PS_div {G : Nat → Fin q} {i j : Nat} (hij : j ≠ i) : ∀ k, j < k → ∃ r, PS G i k = G j * r
  | 0, h => absurd h (by omega)
  | k + 1, h => by
    by_cases e : j = k
    · subst e
      exact ⟨PS G i j, by rw [PS, if_neg hij]; grind⟩
    · obtain ⟨r, hr⟩ := PS_div (G := G) hij k (by omega)
      by_cases hk : k = i
      · exact ⟨r, by rw [PS, if_pos hk, hr]⟩
      · exact ⟨r * G k, by rw [PS, if_neg hk, hr]; grind⟩
theorem cnt_end {i n : Nat} (hi : i < n) : cntN i n = n - 1 := by unfold cntN; rw [if_neg (by omega)]
theorem fi_oth {f : Nat → Nat} {n i b x : Nat} (hf : ∀ j, j < n → f j < q) (hi : i < n) : fi q (prodS q b (othF q f i x) (n - 1)) = fi q b * PS (fun t => fi q x - fi q (f t)) i n := by
  have key : ∀ k, k ≤ n → fi q (prodS q b (othF q f i x) (cntN i k)) = fi q b * PS (fun t => fi q x - fi q (f t)) i k := by
    intro k
    induction k with
    | zero => intro _; rw [show cntN i 0 = 0 by unfold cntN; simp, prodS, PS]; grind
    | succ k ih =>
      intro hk'
      by_cases hk : k = i
      · rw [PS, if_pos hk, ← ih (by omega), hk, cnt_same]
      · rw [PS, if_neg hk, cnt_next hk, prodS, fi_mulN, ih (by omega)]
        unfold othF
        rw [skip_cnt hk, fi_subN (hf k (by omega))]
        grind
  rw [← cnt_end hi]
  exact key n (Nat.le_refl n)
theorem fi_vu {n : Nat} {f : Nat → Nat} (h1 : 1 < q) (hf : ∀ j, j < n → f j < q) {i : Nat} (hi : i < n) (hg : Nat.gcd (uF q n f i) q = 1) : fi q (vF q n f i) * PS (fun t => fi q (f i) - fi q (f t)) i n = 1 := by
  have e1 : fi q (uF q n f i) = PS (fun t => fi q (f i) - fi q (f t)) i n := by
    unfold uF
    rw [fi_oth hf hi, fi_one h1]
    grind
  have l := uF_lt (f := f) (n := n) h1 i
  have e2 : vF q n f i = invM (uF q n f i) q := by unfold vF; rw [if_pos ⟨h1, l⟩]
  rw [← e1, e2]
  have := fi_inv h1 l hg
  grind
theorem u_unit {n : Nat} {f : Nat → Nat} (h1 : 1 < q) (hf : ∀ j, j < n → f j < q) {i : Nat} (hi : i < n) {v : Fin q} (h : PS (fun t => fi q (f i) - fi q (f t)) i n * v = 1) : Nat.gcd (uF q n f i) q = 1 := by
  have e1 : fi q (uF q n f i) = PS (fun t => fi q (f i) - fi q (f t)) i n := by
    unfold uF
    rw [fi_oth hf hi, fi_one h1]
    grind
  exact fi_unit h1 (by rw [e1]; exact h)
omit [NeZero q] in
theorem wtE_all {n : Nat} {f : Nat → Nat} (h1 : 1 < q) : ∀ i, wtE q n f i = 0 ↔ ∀ t, t < i → Nat.gcd (uF q n f t) q = 1
  | 0 => ⟨fun _ t ht => absurd ht (by omega), fun _ => rfl⟩
  | i + 1 => by
    have ih := wtE_all (n := n) (f := f) h1 i
    have hE : invE (uF q n f i) q = if Nat.gcd (uF q n f i) q = 1 then 0 else 7 := by unfold invE; rw [if_pos ⟨h1, uF_lt h1 i⟩]
    rw [wtE, hE]
    unfold keepE
    constructor
    · intro h
      by_cases h0 : wtE q n f i = 0
      · rw [if_pos h0] at h
        have hg : Nat.gcd (uF q n f i) q = 1 := by
          by_cases hg : Nat.gcd (uF q n f i) q = 1
          · exact hg
          · rw [if_neg hg] at h; omega
        intro t ht
        by_cases e : t = i
        · rw [e]; exact hg
        · exact ih.1 h0 t (by omega)
      · rw [if_neg h0] at h
        exact absurd h h0
    · intro h
      have h0 := ih.2 fun t ht => h t (by omega)
      rw [if_pos h0, if_pos (h i (by omega))]
theorem fi_lon {m b : Nat} {P : Nat → Nat} (hb : b < q) (h1 : 1 < q) (hm : 0 < m) : ∀ j, j ≤ m → fi q (lonF q m P b j) = lonR (fi q b) m 0 (fun t => fi q (P t)) j := fun j hj => by
  rw [lonR_at _ _ _ _ _ hj]
  unfold lonF
  split
  · have l : mulN (P j) b q < q := mul_lt' h1 _ _
    rw [fi_subN l, fi_mulN]
    split
    · rw [fi_zero]
    · rfl
  · rw [if_neg (by omega)]
theorem fi_pa {n : Nat} {f V : Nat → Nat} (h1 : 1 < q) (hf : ∀ j, j < n → f j < q) (i : Nat) : ∀ k, k ≤ n → ∀ x, H (fun j => fi q (paF q n f V i k j)) (lenN i k) x = fi q (vF q n f i) * fi q (V i) * PS (fun t => x - fi q (f t)) i k
  | 0, _, x => by
    have e : lenN i 0 = 1 := by unfold lenN cntN; simp
    rw [e, H, H, paF, fi_mulN, PS]
    grind
  | k + 1, hk', x => by
    have ih := fi_pa (V := V) h1 hf i k (by omega) x
    by_cases hk : k = i
    · have e : lenN i (k + 1) = lenN i k := by unfold lenN; rw [hk, cnt_same]
      rw [e, PS, if_pos hk, ← ih]
      exact H_congr (fun j _ => by rw [paF, if_pos hk]) x
    · have e : lenN i (k + 1) = lenN i k + 1 := by unfold lenN; rw [cnt_next hk]; omega
      have hm : 0 < lenN i k := by unfold lenN; omega
      rw [e, PS, if_neg hk]
      rw [H_congr (Q := lonR (fi q (f k)) (lenN i k) 0 (fun t => fi q (paF q n f V i k t))) (fun j hj => by rw [paF, if_neg hk]; exact fi_lon (hf k (by omega)) h1 hm j (by omega)) x, H_lon, ih]
      grind
def SR (G : Nat → Fin q) : Nat → Fin q
  | 0 => 0
  | k + 1 => SR G k + G k
theorem SR_one {G : Nat → Fin q} {j : Nat} : ∀ k, j < k → (∀ t, t < k → t ≠ j → G t = 0) → SR G k = G j
  | 0, h, _ => absurd h (by omega)
  | k + 1, h, h0 => by
    have hz : ∀ m, m ≤ k → (∀ t, t < m → t ≠ j) → SR G m = 0 := by
      intro m
      induction m with
      | zero => intro _ _; rfl
      | succ m ih =>
        intro hm hn
        rw [SR, ih (by omega) (fun t ht => hn t (by omega)), h0 m (by omega) (hn m (by omega))]
        grind
    rw [SR]
    by_cases e : j = k
    · rw [hz k (Nat.le_refl k) (fun t ht => by omega), e]
      grind
    · rw [SR_one k (by omega) (fun t ht hn => h0 t (by omega) hn), h0 k (by omega) (by omega)]
      grind
theorem len_end {i n : Nat} (hi : i < n) : lenN i n = n := by unfold lenN; rw [cnt_end hi]; omega
theorem fi_out {n : Nat} {f V : Nat → Nat} (h1 : 1 < q) (hf : ∀ j, j < n → f j < q) (x : Fin q) : ∀ i, i ≤ n → H (fun j => fi q (outF q n f V i j)) n x = SR (fun t => fi q (vF q n f t) * fi q (V t) * PS (fun s => x - fi q (f s)) t n) i
  | 0, _ => by
    rw [SR, H_congr (Q := fun _ => 0) (fun j _ => by rw [outF, fi_zero]), H_zero]
  | i + 1, h => by
    have ih := fi_out (V := V) h1 hf x i (by omega)
    have hp := fi_pa (V := V) h1 hf i n (Nat.le_refl n) x
    rw [len_end h] at hp
    rw [SR, ← ih, ← hp, ← H_add]
    exact H_congr (fun j _ => by rw [outF, fi_addN]) x
theorem out_at {n : Nat} {f V : Nat → Nat} (h1 : 1 < q) (hf : ∀ j, j < n → f j < q) (hE : wtE q n f n = 0) {j : Nat} (hj : j < n) : H (fun t => fi q (outF q n f V n t)) n (fi q (f j)) = fi q (V j) := by
  rw [fi_out h1 hf _ n (Nat.le_refl n), SR_one n hj fun t ht htj => by
    rw [PS_zero (j := j) (by omega) (by grind) n hj]
    grind]
  have := fi_vu h1 hf hj ((wtE_all h1 n).1 hE j hj)
  generalize PS (fun t => fi q (f j) - fi q (f t)) j n = P at *
  grind
theorem dif_unit {n : Nat} {f : Nat → Nat} (h1 : 1 < q) (hf : ∀ j, j < n → f j < q) (hE : wtE q n f n = 0) (i j : Nat) (hi : i < n) (hj : j < n) (hij : i ≠ j) : ∃ v, (fi q (f i) - fi q (f j)) * v = 1 := by
  have := fi_vu h1 hf hi ((wtE_all h1 n).1 hE i hi)
  obtain ⟨r, hr⟩ := PS_div (G := fun t => fi q (f i) - fi q (f t)) (Ne.symm hij) n hj
  rw [hr] at this
  exact ⟨fi q (vF q n f i) * r, by grind⟩
theorem out_only {n : Nat} {f V : Nat → Nat} (h1 : 1 < q) (hf : ∀ j, j < n → f j < q) (hE : wtE q n f n = 0) (P : Nat → Fin q) (hP : ∀ j, j < n → H P n (fi q (f j)) = fi q (V j)) : ∀ j, j < n → fi q (outF q n f V n j) = P j := fun j hj => by
  have := H_none n (fun t => fi q (outF q n f V n t) - P t) (fun i => fi q (f i)) (dif_unit h1 hf hE) (fun i hi => by
    rw [H_sub, out_at h1 hf hE hi, hP i hi]
    grind) j hj
  grind
end
end Go.Proofs.Ytgfoeongjhkdmaa
namespace Go.Proofs.Ytgfoeongjhkdmaa
open Go.RowKit
attribute [local irreducible] Calls
section
variable {p q g h : Nat} {B0 : Nat} {w0 w : World} {L : List (Nat × Obj)} {a b : Option Addr} {n m cp cq : Nat} {f V : Nat → Nat} {x : Nat}
theorem NAt.here (hA : NAt B0 w0 L a n cp f) (hR : Rep B0 w0 L w) : NAt w.heap.size w [] a n cp f :=
  ⟨hA.lec, hA.big, hA.lt, fun hn => by
    obtain ⟨b, o, q1, q2⟩ := hA.at' hn
    exact ⟨b, o, q1, fun w' hw => q2 w' (hR.join hw)⟩⟩
def zsOf (hq : 0 < q) (f : Nat → Nat) (j : Nat) : Nm q := if h : f j < q then ⟨f j, h⟩ else ⟨0, hq⟩
noncomputable def atN (q : Nat) (f : Nat → Nat) (n x : Nat) : Nat := if hq : 0 < q then hvL x (dnN n (zsOf hq f) 0) else 0
theorem atN_lt (h1 : 1 < q) (f : Nat → Nat) (n x : Nat) : atN q f n x < q := by
  unfold atN
  rw [dif_pos (by omega)]
  exact hvL_lt h1 _ _
theorem fi_atN [NeZero q] (h1 : 1 < q) (hf : ∀ j, j < n → f j < q) (x : Nat) : fi q (atN q f n x) = H (fun j => fi q (f j)) n (fi q x) := by
  unfold atN
  rw [dif_pos (by omega)]
  exact fi_at _ (fun j hj => by unfold zsOf; rw [dif_pos (hf j hj)]) x
def okA (q n : Nat) (f : Nat → Nat) (x : Nat) : Prop := (1 < q ∧ ∀ j, j < n → f j < q) ∧ x < q
theorem at_yes (hp : p < B) (hq : q < B) (hn : n ≤ 1000) (hA : NAt B0 w0 L a n cp f) (hok : okA q n f x) (hR : Rep B0 w0 L w) : Calls Try.prog 10 #[grp p q g h, .slice a n cp, num x] w fun en w' => en = .returned (.tuple #[num (atN q f n x), .int .i64 0]) ∧ Rep B0 w0 L w' := by
  obtain ⟨⟨h1, hf⟩, hx⟩ := hok
  have hq0 : 0 < q := by omega
  refine (at_go (g := g) (h := h) hp hq (hA.here hR) (by omega) h1 hf hx (zsOf hq0 f) (fun j hj => by unfold zsOf; rw [dif_pos (hf j hj)])).mono fun e w' ⟨h1, h2⟩ => ⟨?_, hR.call h2⟩
  rw [h1]
  unfold atN
  rw [dif_pos hq0]
theorem at_no (hp : p < B) (hq : q < B) (hx : x < B) (hn : n ≤ 1000) (hA : NAt B0 w0 L a n cp f) (hok : ¬ okA q n f x) (hR : Rep B0 w0 L w) : Calls Try.prog 10 #[grp p q g h, .slice a n cp, num x] w fun en w' => en = .returned (.tuple #[num 0, .int .i64 1]) ∧ Rep B0 w0 L w' :=
  (at_bad (g := g) (h := h) hp hq hx (hA.here hR) (by omega) hok).mono fun e w' ⟨h1, h2⟩ => ⟨h1, hR.call h2⟩
def okT (q n m : Nat) (f V : Nat → Nat) : Prop := ptsOK q n f ∧ m = n ∧ ∀ j, j < m → V j < q
theorem through_yes (hp : p < B) (hq : q < B) (hn : n ≤ 1000) (hA : NAt B0 w0 L a n cp f) (hV : NAt B0 w0 L b m cq V) (hok : okT q n m f V) (hE : wtE q n f n = 0) (hR : Rep B0 w0 L w) : Calls Try.prog 11 #[grp p q g h, .slice a n cp, .slice b m cq] w fun en w' => ∃ gb, en = .returned (.tuple #[.slice (some ⟨gb, 0, none⟩) n n, .int .i64 0]) ∧ ∃ cur : List Value, NOwn n cur n (outF q n f V n) ∧ Rep B0 w0 ((gb, .cells cur.toArray 24) :: L) w' := by
  obtain ⟨h1, rfl, h3⟩ := hok
  exact (through_go (g := g) (h := h) hp hq (hA.here hR) (hV.here hR) hn h1 h3).mono fun e w' h => h.elim (fun ⟨_, gb, h1, cur, h2, h3⟩ => ⟨gb, h1, cur, h2, hR.join h3⟩) fun ⟨h0, _⟩ => absurd hE h0
end
end Go.Proofs.Ytgfoeongjhkdmaa
namespace Go.Proofs.Ytgfoeongjhkdmaa
open Go.RowKit
theorem build_small (u : Nat) (hu : u < 18446744073709551616) (w : World) : (Instr.build 24 #[(0, .int .u64 (u : Int))]).run Try.prog w = .ok (.agg (nl u).toArray) w := by
  rw [nl_small u hu]
  kernel_rfl
attribute [local irreducible] Calls Instr.build Instr.buildSlice
section
variable {B0 : Nat} {w0 w : World} {L : List (Nat × Obj)}
set_option maxRecDepth 100000 in
set_option maxHeartbeats 4000000 in
theorem of10_any {b n : Nat} {l : List Value} {c : Nat → Nat} (hm : (b, Obj.cells l.toArray 22) ∈ L) (hn : n ≤ 1000) (hl : ∀ i, i < n → l[i]? = some (.int .u64 (c i : Int))) (hc : ∀ i, i < n → c i < 18446744073709551616) (hR : Rep B0 w0 L w) :
    Calls Try.prog 22 #[.slice (some ⟨b, 0, none⟩) n n] w fun e w' => ∃ X : GrN, e = .returned (.slice X.a n X.cap) ∧ GrNOk X n c ∧ Rep B0 w0 (X.bl ++ L) w' := by
  replace hl := Held.mk hl
  replace hc := Held.mk hc
  go_enter Try.func22, Try.ntmps22
  go_wp2_with (first | (refine' xAb hR rfl rfl rfl ?_; clear hR; intro blk w hR) | (refine' xAa hR rfl rfl inferInstance ?_; clear hR; intro blk w hR) | (refine' aFq hR rfl rfl rfl inferInstance ?_) | (refine' aGq hR rfl rfl rfl inferInstance ?_) | (refine' aHq hR rfl rfl rfl inferInstance ?_) | (refine' aDq hR rfl rfl rfl inferInstance rfl ?_; clear hR; intro w hR) | (refine' aEq hR rfl rfl rfl inferInstance rfl rfl ?_; clear hR; intro w hR) | fail)
  refine' xBt (false :: false :: false :: false :: false :: true :: true :: true :: true :: true :: true :: true :: true :: true :: true :: true :: true :: true :: true :: false :: []) (fun (x : Nat × GrN) l => (l.set 3 (.slice x.2.a x.1 x.2.cap)).set 4 (.int .i64 (x.1 : Int))) (fun x => x.2.bl ++ L) (fun x => n - x.1) (fun x => x.1 ≤ n ∧ GrNOk x.2 x.1 c) (0, ⟨none, 0, []⟩) ?h0 ?hO ?hR ?hs
  case h0 => exact xBh rfl rfl rfl
  case hO => exact ⟨Nat.zero_le _, grN_zero _⟩
  case hR => exact hR
  case hs =>
    clear hR
    intro x tm w hO ht hR K hK
    obtain ⟨i, x⟩ := x
    obtain ⟨hi, hx⟩ := hO
    simp only at hi hx ht hR
    have g0 : 0 ≤ (i : Int) := by omega
    by_cases hik : i = n
    · subst hik
      clear hK
      have t1 : ¬ (i : Int) < (i : Int) := by omega
      repeat (first | (obtain ⟨x, tm', e, ht'⟩ := xAu ht; clear ht; subst e; have ht := ht'; clear ht') | (obtain ⟨tm', e, ht'⟩ := xAj ht; clear ht; subst e; have ht := ht'; clear ht'))
      obtain rfl := xAz ht
      clear ht
      go_wp2_with (first | (refine' xAb hR rfl rfl rfl ?_; clear hR; intro blk w hR) | (refine' xAa hR rfl rfl inferInstance ?_; clear hR; intro blk w hR) | (refine' aFq hR rfl rfl rfl inferInstance ?_) | (refine' aGq hR rfl rfl rfl inferInstance ?_) | (refine' aHq hR rfl rfl rfl inferInstance ?_) | (refine' aDq hR rfl rfl rfl inferInstance rfl ?_; clear hR; intro w hR) | (refine' aEq hR rfl rfl rfl inferInstance rfl rfl ?_; clear hR; intro w hR) | fail)
      go_ret
      exact ⟨_, rfl, hx, hR⟩
    · have g1 : (i : Int) < (n : Int) := by omega
      have hin : i < n := by omega
      have hv := hl.out i hin
      have hcv := hc.out i hin
      obtain ⟨u, hu⟩ : ∃ u, c i = u := ⟨_, rfl⟩
      rw [hu] at hv hcv
      have bu := fun w => build_small u hcv w
      have hmm : (b, Obj.cells l.toArray 22) ∈ x.bl ++ L := List.mem_append_right _ hm
      have e1 : IntKind.i64.wrap ((i : Int) + 1) = (i : Int) + 1 := by rw [IntKind.wrap_i64]; omega
      have ek : ((i + 1 : Nat) : Int) = (i : Int) + 1 := by omega
      have hbig : i ≤ 1000000 := by omega
      replace ek := Held.mk ek
      replace hu := Held.mk hu
      clear hcv
      repeat (first | (obtain ⟨x, tm', e, ht'⟩ := xAu ht; clear ht; subst e; have ht := ht'; clear ht') | (obtain ⟨tm', e, ht'⟩ := xAj ht; clear ht; subst e; have ht := ht'; clear ht'))
      obtain rfl := xAz ht
      clear ht
      go_wp2_with (first | (refine' xAb hR rfl rfl rfl ?_; clear hR; intro blk w hR) | (refine' xAa hR rfl rfl inferInstance ?_; clear hR; intro blk w hR) | (refine' aFq hR rfl rfl rfl inferInstance ?_) | (refine' aGq hR rfl rfl rfl inferInstance ?_) | (refine' aHq hR rfl rfl rfl inferInstance ?_) | (refine' aDq hR rfl rfl rfl inferInstance rfl ?_; clear hR; intro w hR) | (refine' aEq hR rfl rfl rfl inferInstance rfl rfl ?_; clear hR; intro w hR) | (refine' aLq hR rfl rfl rfl inferInstance hmm ?_) | (refine' wpList_build1P rfl rfl rfl bu ?_) | (refine' wpList_new hR (xCu rfl rfl rfl) ?_; clear hR; intro bt w hR) | (refine' wpList_appendN (L' := fun l => l ++ L) hR (fun l => List.Perm.refl _) rfl rfl rfl rfl hx hu.out hbig ?_; clear hR hx; intro x' w hx hR))
      exact hK.out (i + 1, x') _ _ ⟨by omega, hx⟩ (by show n - (i + 1) < n - i; omega) (by simp only [ek.out]; exact xBh rfl rfl rfl) hR
end
end Go.Proofs.Ytgfoeongjhkdmaa
namespace Go.Proofs.Ytgfoeongjhkdmaa
open Go.RowKit
def nF (l : List Nat) (j : Nat) : Nat := l.getD j 0
theorem nF_all {l : List Nat} {q n : Nat} (hn : n = l.length) (h : ∀ x ∈ l, x < q) : ∀ j, j < n → nF l j < q := fun j hj => by
  unfold nF
  rw [List.getD_eq_getElem?_getD, List.getElem?_eq_getElem (by omega)]
  exact h _ (List.getElem_mem _)
attribute [local irreducible] Calls
section
variable {B0 : Nat} {w0 w : World} {L : List (Nat × Obj)}
theorem of10_own {b n : Nat} {us : List Nat} (hm : (b, Obj.cells (us.map fun (u : Nat) => Value.int .u64 (u : Int)).toArray 22) ∈ L) (hl : us.length = n) (h0 : n ≠ 0) (hn : n ≤ 1000) (hc : ∀ u ∈ us, u < 18446744073709551616) (hR : Rep B0 w0 L w) :
    Calls Try.prog 22 #[.slice (some ⟨b, 0, none⟩) n n] w fun e w' => ∃ g cap, e = .returned (.slice (some ⟨g, 0, none⟩) n cap) ∧ ∃ cur : List Value, NOwn cap cur n (nF us) ∧ Rep B0 w0 ((g, .cells cur.toArray 24) :: L) w' := by
  refine (of10_any (c := nF us) hm hn (fun i hi => ?_) (fun i hi => nF_all hl.symm hc i hi) hR).mono fun e w' ⟨X, he, hX, hw⟩ => ?_
  · unfold nF
    rw [List.getElem?_map, List.getD_eq_getElem?_getD, List.getElem?_eq_getElem (by omega)]
    rfl
  · obtain ⟨g, cur, ha, hb, ho⟩ := grn_own hX h0
    rw [hb] at hw
    rw [ha] at he
    exact ⟨g, X.cap, he, cur, ho, hw⟩
end
theorem u64s_3 (a b c : Int) (w : World) : (Instr.buildSlice 78 3 #[(0, .int .u64 a), (1, .int .u64 b), (2, .int .u64 c)]).run Try.prog w = .ok (.slice (some ⟨w.heap.size, 0, none⟩) 3 3) (w.alloc (.cells [Value.int .u64 a, .int .u64 b, .int .u64 c].toArray 22)) := by go_simp
end Go.Proofs.Ytgfoeongjhkdmaa
