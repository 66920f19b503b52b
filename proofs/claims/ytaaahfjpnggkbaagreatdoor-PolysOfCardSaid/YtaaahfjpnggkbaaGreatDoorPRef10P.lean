/- What the reference of layer 10 computes is what polys computes. Plain. -/
import Derived.Test.YtaaahfjpnggkbaaGreatDoorPQ
set_option linter.unusedVariables false
set_option linter.unusedSimpArgs false
namespace Go.Proofs.YtaaahfjpnggkbaaGreatDoor
open Go.RowKit
noncomputable def raP (q x : Nat) : Nat → Nat
  | 0 => sOf q 1
  | k + 1 => mulN (raP q x k) x q
noncomputable def raS (q : Nat) (f : Nat → Nat) (x : Nat) : Nat → Nat
  | 0 => 0
  | k + 1 => (raS q f x k + mulN (f k) (raP q x k) q) % q
theorem raP_lt {q : Nat} (h : 1 < q) (x : Nat) : ∀ k, raP q x k < q
  | 0 => sOf_lt h 1
  | k + 1 => mul_lt' h _ _
theorem raS_lt {q : Nat} (h : 1 < q) (f : Nat → Nat) (x : Nat) : ∀ k, raS q f x k < q
  | 0 => Nat.lt_of_succ_lt h
  | k + 1 => Nat.mod_lt _ (by omega)
noncomputable def ruP (q : Nat) (f : Nat → Nat) (i : Nat) : Nat → Nat
  | 0 => sOf q 1
  | k + 1 => if k = i then ruP q f i k else mulN (ruP q f i k) (invM (subN (f i) (f k) q) q) q
theorem ruP_lt {q : Nat} (h : 1 < q) (f : Nat → Nat) (i : Nat) : ∀ k, ruP q f i k < q
  | 0 => sOf_lt h 1
  | k + 1 => by
    unfold ruP
    split
    · exact ruP_lt h f i k
    · exact mul_lt' h _ _
def undOK (q n : Nat) (f : Nat → Nat) (i : Nat) : Prop := ∀ k, k < n → k ≠ i → Nat.gcd (subN (f i) (f k) q) q = 1
noncomputable def rwP (q : Nat) (f : Nat → Nat) (i x v : Nat) : Nat → Nat
  | 0 => v
  | k + 1 => if k = i then rwP q f i x v k else mulN (rwP q f i x v k) (subN x (f k) q) q
theorem rwP_lt {q : Nat} (h : 1 < q) (f : Nat → Nat) (i x : Nat) {v : Nat} (hv : v < q) : ∀ k, rwP q f i x v k < q
  | 0 => hv
  | k + 1 => by
    unfold rwP
    split
    · exact rwP_lt h f i x hv k
    · exact mul_lt' h _ _
noncomputable def rwF (q n : Nat) (f : Nat → Nat) (x i : Nat) : Nat := rwP q f i x (ruP q f i n) n
noncomputable def rpA (q : Nat) (f : Nat → Nat) (i v : Nat) : Nat → Nat → Nat
  | 0, j => if j = 0 then v else 0
  | k + 1, j => if k = i then rpA q f i v k j else if j = 0 then subN 0 (mulN (rpA q f i v k j) (f k) q) q else (subN 0 (mulN (rpA q f i v k j) (f k) q) q + rpA q f i v k (j - 1)) % q
noncomputable def rvF (q n : Nat) (f V : Nat → Nat) (i : Nat) : Nat := mulN (ruP q f i n) (V i) q
noncomputable def roF (q n : Nat) (f V : Nat → Nat) : Nat → Nat → Nat
  | 0, _ => 0
  | i + 1, j => (roF q n f V i j + rpA q f i (rvF q n f V i) n j) % q
theorem rpA_lt {q : Nat} (h : 1 < q) (f : Nat → Nat) (i : Nat) {v : Nat} (hv : v < q) : ∀ k j, rpA q f i v k j < q
  | 0, j => by
    unfold rpA
    split <;> omega
  | k + 1, j => by
    unfold rpA
    split
    · exact rpA_lt h f i hv k j
    · split
      · rw [xCk]; exact Nat.mod_lt _ (by omega)
      · exact Nat.mod_lt _ (by omega)
theorem roF_lt {q n : Nat} (h : 1 < q) (f V : Nat → Nat) : ∀ i j, roF q n f V i j < q
  | 0, _ => Nat.lt_of_succ_lt h
  | i + 1, j => Nat.mod_lt _ (by omega)
section
variable {q : Nat} [NeZero q]
theorem fi_raP (h1 : 1 < q) (x : Nat) : ∀ i, fi q (raP q x i) = fi q x ^ i
  | 0 => by rw [raP, fi_one h1]; grind
  | i + 1 => by rw [raP, fi_mulN, fi_raP h1 x i]; grind
theorem fi_raS (h1 : 1 < q) (f : Nat → Nat) (x : Nat) : ∀ k, fi q (raS q f x k) = H (fun j => fi q (f j)) k (fi q x)
  | 0 => by rw [raS, fi_zero]; rfl
  | k + 1 => by rw [raS, fi_addN, fi_mulN, fi_raP h1, fi_raS h1 f x k, H_last]
theorem ra_at (h1 : 1 < q) {n : Nat} {f : Nat → Nat} (zs : Nat → Nm q) (hz : ∀ j, j < n → (zs j).1 = f j) (x : Nat) : raS q f x n = hvL x (dnN n zs 0) :=
  fi_inj (raS_lt h1 f x n) (hvL_lt h1 x _) (by rw [fi_raS h1, fi_at zs hz])
variable {n : Nat} {f : Nat → Nat}
theorem fi_ruP (h1 : 1 < q) (hf : ∀ j, j < n → f j < q) {i : Nat} (hu : undOK q n f i) : ∀ k, k ≤ n → fi q (ruP q f i k) * PS (fun t => fi q (f i) - fi q (f t)) i k = 1
  | 0, _ => by rw [ruP, PS, fi_one h1]; grind
  | k + 1, hk => by
    have ih := fi_ruP h1 hf hu k (by omega)
    rw [ruP, PS]
    by_cases hki : k = i
    · rw [if_pos hki, if_pos hki]; exact ih
    · rw [if_neg hki, if_neg hki, fi_mulN]
      have hd : subN (f i) (f k) q < q := by rw [xCk]; exact Nat.mod_lt _ (by omega)
      have e := fi_inv h1 hd (hu k (by omega) hki)
      rw [fi_subN (hf k (by omega))] at e
      generalize fi q (invM (subN (f i) (f k) q) q) = v at *
      generalize fi q (f i) - fi q (f k) = d at *
      generalize PS (fun t => fi q (f i) - fi q (f t)) i k = P at *
      grind
theorem und_gcd (h1 : 1 < q) (hf : ∀ j, j < n → f j < q) {i : Nat} (hi : i < n) : undOK q n f i ↔ Nat.gcd (uF q n f i) q = 1 := by
  constructor
  · intro hu
    have := fi_ruP h1 hf hu n (Nat.le_refl n)
    exact u_unit h1 hf hi (v := fi q (ruP q f i n)) (by grind)
  · intro hg k hk hki
    have e := fi_vu h1 hf hi hg
    obtain ⟨r, hr⟩ := PS_div (G := fun t => fi q (f i) - fi q (f t)) (i := i) hki n hk
    rw [hr] at e
    refine fi_unit h1 (v := fi q (vF q n f i) * r) ?_
    rw [fi_subN (hf k hk)]
    grind
theorem und_all (h1 : 1 < q) (hf : ∀ j, j < n → f j < q) : (∀ i, i < n → undOK q n f i) ↔ wtE q n f n = 0 :=
  Iff.trans ⟨fun h t ht => (und_gcd h1 hf ht).1 (h t ht), fun h t ht => (und_gcd h1 hf ht).2 (h t ht)⟩ (wtE_all h1 n).symm
theorem ru_v (h1 : 1 < q) (hf : ∀ j, j < n → f j < q) {i : Nat} (hi : i < n) (hu : undOK q n f i) : ruP q f i n = vF q n f i := by
  refine fi_inj (ruP_lt h1 f i n) (vF_lt h1 i) ?_
  have a := fi_ruP h1 hf hu n (Nat.le_refl n)
  have b := fi_vu h1 hf hi ((und_gcd h1 hf hi).1 hu)
  generalize PS (fun t => fi q (f i) - fi q (f t)) i n = P at *
  grind
theorem fi_rwP (h1 : 1 < q) (hf : ∀ j, j < n → f j < q) (i x v : Nat) : ∀ k, k ≤ n → fi q (rwP q f i x v k) = fi q v * PS (fun t => fi q x - fi q (f t)) i k
  | 0, _ => by rw [rwP, PS]; grind
  | k + 1, hk => by
    have ih := fi_rwP h1 hf i x v k (by omega)
    rw [rwP, PS]
    by_cases hki : k = i
    · rw [if_pos hki, if_pos hki]; exact ih
    · rw [if_neg hki, if_neg hki, fi_mulN, ih, fi_subN (hf k (by omega))]
      grind
theorem rw_wt (h1 : 1 < q) (hf : ∀ j, j < n → f j < q) {i : Nat} (hi : i < n) (hu : undOK q n f i) (x : Nat) : rwF q n f x i = wtF q n f x i := by
  refine fi_inj (rwP_lt h1 f i x (ruP_lt h1 f i n) n) (prodS_lt h1 (vF_lt h1 i) _) ?_
  show fi q (rwP q f i x (ruP q f i n) n) = fi q (wtF q n f x i)
  rw [fi_rwP h1 hf i x _ n (Nat.le_refl n), fi_wt hf hi, ru_v h1 hf hi hu]
theorem rp_pa (h1 : 1 < q) (hf : ∀ j, j < n → f j < q) (V : Nat → Nat) (i : Nat) : ∀ k, k ≤ n → ∀ j, rpA q f i (mulN (vF q n f i) (V i) q) k j = if j < lenN i k then paF q n f V i k j else 0
  | 0, _, j => by
    have e : lenN i 0 = 1 := by unfold lenN cntN; simp
    rw [rpA, e, paF]
    by_cases h0 : j = 0
    · rw [if_pos h0, if_pos (by omega)]
    · rw [if_neg h0, if_neg (by omega)]
  | k + 1, hk, j => by
    have ih := rp_pa h1 hf V i k (by omega)
    rw [rpA, paF]
    by_cases hki : k = i
    · have e : lenN i (k + 1) = lenN i k := by unfold lenN; rw [hki, cnt_same]
      rw [if_pos hki, if_pos hki, e]
      exact ih j
    · have e : lenN i (k + 1) = lenN i k + 1 := by unfold lenN; rw [cnt_next hki]; omega
      have hm : 0 < lenN i k := by unfold lenN; omega
      rw [if_neg hki, if_neg hki, e, ih j]
      have hP := fun j hj => paF_lt (n := n) (f := f) (V := V) h1 i k j hj
      have ihp := ih (j - 1)
      rw [ihp]
      generalize paF q n f V i k = P at *
      generalize lenN i k = m at *
      have z0 : subN 0 (mulN 0 (f k) q) q = 0 := by rw [mulN_def, Nat.zero_mul, Nat.zero_mod, xCk, Nat.zero_add, Nat.sub_zero, Nat.mod_self]
      unfold lonF
      by_cases hj : j < m
      · by_cases h0 : j = 0
        · rw [if_pos h0, if_pos hj, if_pos (by omega : j < m + 1), if_pos hj, if_pos h0]
        · rw [if_neg h0, if_pos hj, if_pos (by omega : j - 1 < m), if_pos (by omega : j < m + 1), if_pos hj, if_neg h0]
          have lz : mulN (P j) (f k) q < q := mul_lt' h1 _ _
          refine fi_inj (Nat.mod_lt _ (by omega)) (by rw [xCk]; exact Nat.mod_lt _ (by omega)) ?_
          rw [fi_addN, fi_subN lz, fi_subN lz, fi_zero]
          grind
      · rw [if_neg hj, z0, if_neg (by omega : ¬ j = 0), Nat.zero_add]
        by_cases hjm : j = m
        · rw [if_pos (by omega), if_pos (by omega), if_neg hj]
          exact Nat.mod_eq_of_lt (hP (j - 1) (by omega))
        · rw [if_neg (by omega), if_neg (by omega), Nat.zero_mod]
theorem ro_out (h1 : 1 < q) (hf : ∀ j, j < n → f j < q) (V : Nat → Nat) (hu : ∀ i, i < n → undOK q n f i) : ∀ i, i ≤ n → ∀ j, j < n → roF q n f V i j = outF q n f V i j
  | 0, _, _, _ => rfl
  | i + 1, hi, j, hj => by
    have ih := ro_out h1 hf V hu i (by omega) j hj
    have e := rp_pa h1 hf V i n (Nat.le_refl n) j
    rw [len_end (by omega : i < n), if_pos hj] at e
    rw [roF, outF, ih]
    unfold rvF
    rw [ru_v h1 hf (by omega) (hu i (by omega)), e]
end
end Go.Proofs.YtaaahfjpnggkbaaGreatDoor
