/- Groups as values; the contracts of scalars.Add, Sub, Mul, Inv. -/
import Derived.Test.YtdagdfcbnhfdkaaMM
import Derived.Test.YtdagdfcbnhfdkaaMA
import Derived.ChangeArms
import Derived.ChangeSame
import Derived.WalkKit
import Derived.WalkSpells
import Derived.WalkLawsBesides
import Derived.Outline
import Derived.Test.YtdagdfcbnhfdkaaMJ
import Derived.Test.YtdagdfcbnhfdkaaMD
set_option linter.unusedVariables false
set_option linter.unusedSimpArgs false
namespace Go.Proofs.Ytdagdfcbnhfdkaa
open Go.RowKit
attribute [local irreducible] Calls
noncomputable def gl (p q g h : Nat) : List Value := [.int .u64 (wd p 0), .int .u64 (wd p 1), .int .u64 (wd p 2), .int .u64 (wd p 3), .int .u64 (wd q 0), .int .u64 (wd q 1), .int .u64 (wd q 2), .int .u64 (wd q 3),
  .int .u64 (wd g 0), .int .u64 (wd g 1), .int .u64 (wd g 2), .int .u64 (wd g 3), .int .u64 (wd h 0), .int .u64 (wd h 1), .int .u64 (wd h 2), .int .u64 (wd h 3)]
noncomputable abbrev grp (p q g h : Nat) : Value := .agg (gl p q g h).toArray
instance : RowT Try.prog 35 16 := .mk' (by kernel_rfl) (by kernel_rfl)
instance : CellT Try.prog 2 := .mk' (by kernel_rfl) (by kernel_rfl)
def gz : List Value := [.int .u64 0, .int .u64 0, .int .u64 0, .int .u64 0, .int .u64 0, .int .u64 0, .int .u64 0, .int .u64 0, .int .u64 0, .int .u64 0, .int .u64 0, .int .u64 0, .int .u64 0, .int .u64 0, .int .u64 0, .int .u64 0]
instance : ZeroT Try.prog 35 gz := ⟨.agg gz.toArray, by kernel_rfl, rfl⟩
theorem gl_p (p q g h : Nat) : ((gl p q g h).drop 0).take 4 = nl p := rfl
theorem gl_q (p q g h : Nat) : ((gl p q g h).drop 4).take 4 = nl q := rfl
theorem gl_g (p q g h : Nat) : ((gl p q g h).drop 8).take 4 = nl g := rfl
theorem gl_h (p q g h : Nat) : ((gl p q g h).drop 12).take 4 = nl h := rfl
end Go.Proofs.Ytdagdfcbnhfdkaa
namespace Go.Proofs.Ytdagdfcbnhfdkaa
open Go.ChangeShapes Go.WideShapes Go.ChangeAt Go.RowKit
noncomputable def grpD {H : Type} (a b c d : Nat) : DataW H := .agg [numD a, numD b, numD c, numD d]
theorem list4' {α : Type} (l : List α) (h : l.length = 4) : ∃ a b c d, l = [a, b, c, d] := by
  match l, h with
  | [a, b, c, d], _ => exact ⟨a, b, c, d, rfl⟩
theorem trod_numG {H : Type} {enc : TypeId × Value → H} {W : World} {base fuel : Nat} {sp : Nat → Bool} {held : Bool} {cs : List Value} {y : DataW H × List MemPlace} (hl : cs.length = 4) (hf : DataW.trod enc Try.prog W base sp held fuel 24 cs = some y) :
    ∃ a, a < B ∧ cs = nl a ∧ y = (numD a, []) := by
  obtain ⟨c0, c1, c2, c3, rfl⟩ := list4' cs hl
  obtain ⟨y0, y1, y2, y3, m, hx, hy0, hy1, hy2, hy3⟩ := trod_array4 Try.underlying24 cells_u64 hf
  obtain ⟨x0, e0, rfl, w0⟩ := DataW.trod_int Try.underlying22 hy0
  obtain ⟨x1, e1, rfl, w1⟩ := DataW.trod_int Try.underlying22 hy1
  obtain ⟨x2, e2, rfl, w2⟩ := DataW.trod_int Try.underlying22 hy2
  obtain ⟨x3, e3, rfl, w3⟩ := DataW.trod_int Try.underlying22 hy3
  simp at e0 e1 e2 e3
  subst e0 e1 e2 e3
  subst hx
  obtain ⟨n0, rfl⟩ := Int.eq_ofNat_of_zero_le (wf_u64 w0).1
  obtain ⟨n1, rfl⟩ := Int.eq_ofNat_of_zero_le (wf_u64 w1).1
  obtain ⟨n2, rfl⟩ := Int.eq_ofNat_of_zero_le (wf_u64 w2).1
  obtain ⟨n3, rfl⟩ := Int.eq_ofNat_of_zero_le (wf_u64 w3).1
  have b0 := (wf_u64 w0).2
  have b1 := (wf_u64 w1).2
  have b2 := (wf_u64 w2).2
  have b3 := (wf_u64 w3).2
  have e := nl_ofW n0 n1 n2 n3 (by omega) (by omega) (by omega) (by omega)
  refine ⟨ofW n0 n1 n2 n3, ofW_lt _ _ _ _ (by omega) (by omega) (by omega) (by omega), e.symm, ?_⟩
  unfold nl at e
  simp only [List.cons.injEq, Value.int.injEq, true_and, and_true] at e
  obtain ⟨k0, k1, k2, k3⟩ := e
  unfold numD
  rw [k0, k1, k2, k3]
  simp
theorem split4 (l : List Value) (hl : l.length = 16) : l = (l.drop 0).take 4 ++ ((l.drop 4).take 4 ++ ((l.drop 8).take 4 ++ (l.drop 12).take 4)) := by
  have t3 : (l.drop 12).take 4 = l.drop 12 := List.take_of_length_le (by simp; omega)
  have t2 : l.drop 8 = (l.drop 8).take 4 ++ (l.drop 8).drop 4 := (List.take_append_drop 4 (l.drop 8)).symm
  have t1 : l.drop 4 = (l.drop 4).take 4 ++ (l.drop 4).drop 4 := (List.take_append_drop 4 (l.drop 4)).symm
  rw [List.drop_drop] at t1 t2
  rw [t3, ← t2, ← t1, List.drop_zero, List.take_append_drop]
theorem cells_grp : Try.prog.cellsOf 35 = 16 := by kernel_rfl
set_option maxRecDepth 100000 in
theorem open_grp {H : Type} {enc : TypeId × Value → H} {W : World} {base b0 : Nat} {r : Reach} {sp : Nat → Bool} {held : Bool} {v : Value} {d : DataW H} {ps : List MemPlace} (hval : Value.okWide Try.prog W r b0 35 v) (hd : DataW.Trod enc Try.prog W base sp held 35 v d ps) :
    ∃ a b c e, a < B ∧ b < B ∧ c < B ∧ e < B ∧ v = grp a b c e ∧ d = grpD a b c e ∧ ps = [] := by
  obtain ⟨cs, rfl, hsz, _⟩ : ∃ cs, v = .agg cs ∧ cs.size = Try.prog.cellsOf 35 ∧ Row.okWide Try.prog W r b0 35 cs := by
    simpa [Value.okWide, Try.underlying35] using hval
  rw [cells_grp] at hsz
  obtain ⟨l⟩ := cs
  have hl : l.length = 16 := by simpa using hsz
  obtain ⟨fuel, hf⟩ := hd
  change DataW.trod enc Try.prog W base sp held fuel 35 l = some (d, ps) at hf
  obtain ⟨xs, m, _, hx, _, hn, hi⟩ := DataW.trod_struct Try.underlying35 hf
  obtain ⟨x0, x1, x2, x3, rfl⟩ := list4' xs hn
  have h0 := hi 0 _ rfl
  have h1 := hi 1 _ rfl
  have h2 := hi 2 _ rfl
  have h3 := hi 3 _ rfl
  change DataW.trod enc Try.prog W base sp held m 24 ((l.drop 0).take (Try.prog.cellsOf 24)) = some x0 at h0
  change DataW.trod enc Try.prog W base sp held m 24 ((l.drop 4).take (Try.prog.cellsOf 24)) = some x1 at h1
  change DataW.trod enc Try.prog W base sp held m 24 ((l.drop 8).take (Try.prog.cellsOf 24)) = some x2 at h2
  change DataW.trod enc Try.prog W base sp held m 24 ((l.drop 12).take (Try.prog.cellsOf 24)) = some x3 at h3
  rw [cells_num] at h0 h1 h2 h3
  have e := split4 l hl
  obtain ⟨a, la, ea, rfl⟩ := trod_numG (by simp; omega) h0
  obtain ⟨b, lb, eb, rfl⟩ := trod_numG (by simp; omega) h1
  obtain ⟨c, lc, ec, rfl⟩ := trod_numG (by simp; omega) h2
  obtain ⟨f, lf, ef, rfl⟩ := trod_numG (by simp; omega) h3
  rw [show (l.drop 0).take 4 = nl a from ea, show (l.drop 4).take 4 = nl b from eb, show (l.drop 8).take 4 = nl c from ec, show (l.drop 12).take 4 = nl f from ef] at e
  simp only [Prod.mk.injEq] at hx
  obtain ⟨rfl, rfl⟩ := hx
  exact ⟨a, b, c, f, la, lb, lc, lf, by rw [e]; rfl, rfl, by simp⟩
set_option maxRecDepth 100000 in
theorem shut_grp {H : Type} {enc : TypeId × Value → H} {W : World} {base : Nat} {sp : Nat → Bool} {held : Bool} (a b c e : Nat) : DataW.Trod enc Try.prog W base sp held 35 (grp a b c e) (grpD a b c e) [] :=
  ⟨3, by
    unfold grp gl grpD numD
    simp [DataW.trod, Value.cells, Try.underlying35, Try.underlying24, Try.underlying22, cells_grp, cells_num, cells_u64, wf_wd, show List.range 4 = [0, 1, 2, 3] from rfl]⟩
end Go.Proofs.Ytdagdfcbnhfdkaa
namespace Go.Proofs.Ytdagdfcbnhfdkaa
open Go.RowKit
def noDiv (n k : Nat) : Prop := ∀ d, 2 ≤ d → d < k → n % d ≠ 0
def IsSmall (n : Nat) : Prop := 2 ≤ n ∧ n < 4294967296 ∧ ∀ d, 2 ≤ d → d * d ≤ n → n % d ≠ 0
open Classical in
noncomputable def smallB (n : Nat) : Bool := decide (IsSmall n)
open Classical in
theorem smallB_no {n : Nat} (h : ¬ IsSmall n) : smallB n = false := by unfold smallB; exact decide_eq_false h
open Classical in
theorem smallB_yes {n : Nat} (h : IsSmall n) : smallB n = true := by unfold smallB; exact decide_eq_true h
theorem ret_bool {a b : Bool} (h : a = b) : Ending.returned (.bool a) = .returned (.bool b) := by rw [h]
theorem smallB_lt (n : Nat) (h : n < 2) : smallB n = false := by
  refine smallB_no ?_; unfold IsSmall; omega
theorem smallB_ge (n : Nat) (h : ¬ n < 4294967296) : smallB n = false := by
  refine smallB_no ?_; unfold IsSmall; omega
theorem smallB_div (n k : Nat) (hk : 2 ≤ k) (h : k * k ≤ n) (h0 : n % k = 0) : smallB n = false := by
  refine smallB_no ?_; unfold IsSmall
  rintro ⟨_, _, h3⟩
  exact h3 k hk h h0
theorem smallB_none (n k : Nat) (h2 : ¬ n < 2) (h3 : n < 4294967296) (h : n < k * k) (hno : noDiv n k) : smallB n = true := by
  refine smallB_yes ?_
  refine ⟨by omega, h3, fun d hd hdd => hno d hd ?_⟩
  rcases Nat.lt_or_ge d k with hlt | hge
  · exact hlt
  · have := Nat.mul_le_mul hge hge
    omega
theorem noDiv_two (n : Nat) : noDiv n 2 := fun d h1 h2 => by omega
theorem noDiv_succ (n k : Nat) (h : noDiv n k) (h0 : n % k ≠ 0) : noDiv n (k + 1) := fun d h1 h2 => by
  rcases Nat.lt_or_ge d k with hlt | hge
  · exact h d h1 hlt
  · have : d = k := by omega
    subst this; exact h0
theorem sq_le (n k : Nat) (h3 : n < 4294967296) (h : k * k ≤ n) : k < 65536 := by
  rcases Nat.lt_or_ge k 65536 with hlt | hge
  · exact hlt
  · have := Nat.mul_le_mul hge hge
    omega
theorem le_of_cast {n k : Nat} (h : (k : Int) * k ≤ n) : k * k ≤ n := by
  have : ((k * k : Nat) : Int) ≤ n := by simpa using h
  omega
theorem lt_of_cast {n k : Nat} (h : (n : Int) < (k : Int) * k) : n < k * k := by
  have : (n : Int) < ((k * k : Nat) : Int) := by simpa using h
  omega
theorem mod_zero_of {n k : Nat} (h : ((n : Int) % k == 0) = true) : n % k = 0 := by
  have : (n : Int) % k = 0 := by simpa using h
  omega
theorem mod_ne_of {n k : Nat} (h : ((n : Int) % k == 0) = false) : n % k ≠ 0 := by
  intro h0
  have : (n : Int) % k = 0 := by omega
  simp [this] at h
set_option maxRecDepth 100000 in
set_option maxHeartbeats 400000 in
theorem small_any (n : Nat) (w : World) (hn : n < 18446744073709551616) :
    Calls Try.prog 36 #[.int .u64 n] w fun e w' => e = .returned (.bool (smallB n)) ∧ w = w' := by
  by_cases h2 : n < 2
  · go_enter Try.func36, Try.ntmps36
    go_wp2
    go_step3
    go_wp2
    go_ret
    exact ⟨ret_bool (smallB_lt n h2).symm, rfl⟩
  · by_cases h3 : n < 4294967296
    · have hs : (n : Int) / 4294967296 = 0 := by omega
      go_enter Try.func36, Try.ntmps36
      go_wp2
      go_step3
      go_wp2
      go_step3
      go_wp2
      go_loop [3, 4] (fun i d => ∃ k : Nat, 2 ≤ k ∧ k ≤ 65536 ∧ noDiv n k ∧ d = .int .u64 k ∧ i = .bool true) (fun _ d => 65536 - (intOf d).toNat)
      case atStart => exact ⟨2, by omega, by omega, noDiv_two n, rfl, rfl⟩
      case round =>
        obtain ⟨k, hk2, hk, hno, rfl, rfl⟩ := hrel
        have hkk : (k : Int) * k ≤ 4294967296 := by
          have := Nat.mul_le_mul hk hk
          have h' : ((k * k : Nat) : Int) ≤ 4294967296 := by omega
          simpa using h'
        have hk0 : (0 : Int) ≤ (k : Int) * k := by
          have h' : (0 : Int) ≤ ((k * k : Nat) : Int) := by omega
          simpa using h'
        go_wp2
        · have h1 : (k : Int) * k ≤ n := by assumption
          have h0 : ((n : Int) % k == 0) = true := by assumption
          go_ret
          exact ⟨ret_bool (smallB_div n k hk2 (le_of_cast h1) (mod_zero_of h0)).symm, rfl⟩
        · have h1 : (k : Int) * k ≤ n := by assumption
          have h0 : ((n : Int) % k == 0) = false := by assumption
          have hlt := sq_le n k h3 (le_of_cast h1)
          go_round
          case rel => exact ⟨k + 1, by omega, by omega, noDiv_succ n k hno (mod_ne_of h0), by go_num, rfl⟩
          case measure => simp [intOf]; omega
        · have h1 : (n : Int) < (k : Int) * k := by assumption
          go_ret
          exact ⟨ret_bool (smallB_none n k h2 h3 (lt_of_cast h1) hno).symm, rfl⟩
    · have hs : (n : Int) / 4294967296 > 0 := by omega
      go_enter Try.func36, Try.ntmps36
      go_wp2
      go_step3
      go_wp2
      try rw [Exit.noGoto_ret]
      go_ret
      exact ⟨ret_bool (smallB_ge n h3).symm, rfl⟩
theorem small_lit (n : Nat) (b : Bool) (hn : n < 18446744073709551616) (hb : smallB n = b) (w : World) : Calls Try.prog 36 #[.int .u64 n] w fun e w' => e = .returned (.bool b) ∧ Below w.heap.size w w' :=
  (small_any n w hn).mono fun e w' ⟨h1, h2⟩ => ⟨by rw [h1, hb], by rw [← h2]; exact Below.refl _ _⟩
end Go.Proofs.Ytdagdfcbnhfdkaa
namespace Go.Proofs.Ytdagdfcbnhfdkaa
open Go.RowKit
def IsPr (n : Nat) : Prop := 2 ≤ n ∧ ∀ d, d ∣ n → d = 1 ∨ d = n
theorem pr_gcd {p a : Nat} (hp : IsPr p) (h : ¬ p ∣ a) : Nat.gcd p a = 1 := by
  rcases hp.2 _ (Nat.gcd_dvd_left p a) with h1 | h1
  · exact h1
  · exact absurd (by have := Nat.gcd_dvd_right p a; rwa [h1] at this) h
theorem pr_mul {p a b : Nat} (hp : IsPr p) (h : p ∣ a * b) : p ∣ a ∨ p ∣ b := by
  by_cases ha : p ∣ a
  · exact .inl ha
  · exact .inr (Nat.Coprime.dvd_of_dvd_mul_left (pr_gcd hp ha) h)
theorem pr_pow {p a : Nat} (hp : IsPr p) : ∀ n, p ∣ a ^ n → p ∣ a
  | 0, h => by
    rw [Nat.pow_zero] at h
    have := Nat.le_of_dvd Nat.one_pos h
    have := hp.1
    omega
  | n + 1, h => by
    rw [Nat.pow_succ] at h
    rcases pr_mul hp h with h | h
    · exact pr_pow hp n h
    · exact h
theorem pr_power {q e g h : Nat} (hq : IsPr q) (hn : ¬ q ∣ h) (hd : q ^ e ∣ g * h) : q ^ e ∣ g :=
  Nat.Coprime.dvd_of_dvd_mul_right (Nat.Coprime.pow_left e (pr_gcd hq hn)) hd
theorem pr_in (n : Nat) : 2 ≤ n → ∃ p, IsPr p ∧ p ∣ n := by
  induction n using Nat.strongRecOn with
  | _ n ih =>
    intro h2
    by_cases hp : IsPr n
    · exact ⟨n, hp, Nat.dvd_refl n⟩
    · have : ∃ d, d ∣ n ∧ d ≠ 1 ∧ d ≠ n := by
        refine Classical.byContradiction fun h => hp ⟨h2, fun d hd => ?_⟩
        by_cases h1 : d = 1
        · exact .inl h1
        · by_cases h3 : d = n
          · exact .inr h3
          · exact absurd ⟨d, hd, h1, h3⟩ h
      obtain ⟨d, hd, h1, h3⟩ := this
      have hle := Nat.le_of_dvd (by omega) hd
      have h0 : d ≠ 0 := fun h => by
        subst h
        have := Nat.eq_zero_of_zero_dvd hd
        omega
      obtain ⟨p, hp, hpd⟩ := ih d (by omega) (by omega)
      exact ⟨p, hp, Nat.dvd_trans hpd hd⟩
theorem pr_root {n : Nat} (h2 : 2 ≤ n) (hn : ¬ IsPr n) : ∃ p, IsPr p ∧ p ∣ n ∧ p * p ≤ n := by
  have : ∃ d, d ∣ n ∧ d ≠ 1 ∧ d ≠ n := by
    refine Classical.byContradiction fun h => hn ⟨h2, fun d hd => ?_⟩
    by_cases h1 : d = 1
    · exact .inl h1
    · by_cases h3 : d = n
      · exact .inr h3
      · exact absurd ⟨d, hd, h1, h3⟩ h
  obtain ⟨d, ⟨e, he⟩, h1, h3⟩ := this
  have d0 : d ≠ 0 := fun h => by rw [h, Nat.zero_mul] at he; omega
  have e0 : e ≠ 0 := fun h => by rw [h, Nat.mul_zero] at he; omega
  have e1 : e ≠ 1 := fun h => by rw [h, Nat.mul_one] at he; omega
  have key : ∀ x y, n = x * y → 2 ≤ x → x ≤ y → ∃ p, IsPr p ∧ p ∣ n ∧ p * p ≤ n := fun x y hxy hx hle => by
    obtain ⟨p, hp, hpd⟩ := pr_in x hx
    have hpx := Nat.le_of_dvd (by omega) hpd
    exact ⟨p, hp, Nat.dvd_trans hpd ⟨y, hxy⟩, by
      have := Nat.mul_le_mul hpx (Nat.le_trans hpx hle)
      omega⟩
  rcases Nat.le_total d e with h | h
  · exact key d e he (by omega) h
  · exact key e d (by rw [he, Nat.mul_comm]) (by omega) h
theorem mod_one_of {p x : Nat} (hp : 1 < p) (h : p ∣ x - 1) (hx : 1 ≤ x) : x % p = 1 := by
  obtain ⟨k, hk⟩ := h
  have : x = 1 + p * k := by omega
  rw [this, Nat.add_mul_mod_self_left, Nat.mod_eq_of_lt hp]
def prd (f : Nat → Nat) : Nat → Nat
  | 0 => 1
  | n + 1 => prd f n * f n
theorem prd_congr {f g : Nat → Nat} : ∀ n, (∀ i, i < n → f i = g i) → prd f n = prd g n
  | 0, _ => rfl
  | n + 1, h => by
    show prd f n * f n = prd g n * g n
    rw [prd_congr n fun i hi => h i (by omega), h n (by omega)]
theorem prd_set (F : Nat → Nat) (c j : Nat) : ∀ n, j < n → prd F n * c = prd (fun i => if i = j then c else F i) n * F j
  | 0, h => absurd h (Nat.not_lt_zero j)
  | n + 1, h => by
    show prd F n * F n * c = prd (fun i => if i = j then c else F i) n * (if n = j then c else F n) * F j
    by_cases hj : n = j
    · subst hj
      rw [if_pos rfl, prd_congr n (f := fun i => if i = n then c else F i) (g := F) (fun i hi => if_neg (by omega))]
      rw [Nat.mul_assoc, Nat.mul_assoc, Nat.mul_comm (F n) c]
    · rw [if_neg hj, Nat.mul_right_comm, prd_set F c j n (by omega), Nat.mul_right_comm]
theorem pig : ∀ (n : Nat) (g : Nat → Nat), (∀ i, i ≤ n → g i < n) → (∀ i j, i ≤ n → j ≤ n → g i = g j → i = j) → False
  | 0, g, h, _ => absurd (h 0 (Nat.le_refl 0)) (Nat.not_lt_zero _)
  | n + 1, g, h, hi => by
    refine pig n (fun i => if g i = n then g (n + 1) else g i) (fun i hin => ?_) (fun i j hin hjn e => ?_)
    · have h1 := h i (by omega)
      have h2 := h (n + 1) (by omega)
      show (if g i = n then g (n + 1) else g i) < n
      split
      · rename_i e
        have : g (n + 1) ≠ n := fun e' => by
          have := hi i (n + 1) (by omega) (by omega) (e.trans e'.symm)
          omega
        omega
      · omega
    · split at e
      · rename_i e1
        split at e
        · rename_i e2
          exact hi i j (by omega) (by omega) (e1.trans e2.symm)
        · have := hi (n + 1) j (by omega) (by omega) e
          omega
      · split at e
        · have := hi i (n + 1) (by omega) (by omega) e
          omega
        · exact hi i j (by omega) (by omega) e
theorem prd_turn (f : Nat → Nat) : ∀ (n : Nat) (g : Nat → Nat), (∀ i, i < n → g i < n) → (∀ i j, i < n → j < n → g i = g j → i = j) → prd (fun i => f (g i)) n = prd f n
  | 0, _, _, _ => rfl
  | n + 1, g, h, hi => by
    by_cases hj : ∃ j, j ≤ n ∧ g j = n
    · obtain ⟨j, hjn, hj⟩ := hj
      have ih := prd_turn f n (fun i => if i = j then g n else g i) (fun i hin => by
        have h1 := h i (by omega)
        have h2 := h n (by omega)
        show (if i = j then g n else g i) < n
        split
        · rename_i e
          have : g n ≠ n := fun e' => by
            have := hi n j (by omega) (by omega) (e'.trans hj.symm)
            omega
          omega
        · rename_i e
          have : g i ≠ n := fun e' => e (hi i j (by omega) (by omega) (e'.trans hj.symm))
          omega) (fun a b ha hb e => by
        split at e
        · rename_i e1
          split at e
          · rename_i e2
            exact e1.trans e2.symm
          · have := hi n b (by omega) (by omega) e
            omega
        · split at e
          · have := hi a n (by omega) (by omega) e
            omega
          · exact hi a b (by omega) (by omega) e)
      show prd (fun i => f (g i)) n * f (g n) = prd f n * f n
      rw [← ih]
      by_cases hjn' : j = n
      · subst hjn'
        rw [hj]
        congr 1
        refine prd_congr j fun i hin => ?_
        rw [if_neg (by omega)]
      · rw [prd_set (fun i => f (g i)) (f (g n)) j n (by omega)]
        simp only [hj]
        congr 1
        refine prd_congr n fun i hin => ?_
        by_cases e : i = j
        · rw [if_pos e, if_pos e]
        · rw [if_neg e, if_neg e]
    · exact (pig n g (fun i hin => by
        have := h i (by omega)
        have : g i ≠ n := fun e => hj ⟨i, hin, e⟩
        omega) (fun a b ha hb e => hi a b (by omega) (by omega) e)).elim
theorem prd_mod (F : Nat → Nat) (p : Nat) : ∀ n, prd (fun i => F i % p) n % p = prd F n % p
  | 0 => rfl
  | n + 1 => by
    show prd (fun i => F i % p) n * (F n % p) % p = prd F n * F n % p
    rw [Nat.mul_mod, prd_mod F p n, Nat.mod_mod, ← Nat.mul_mod]
theorem prd_mul (a : Nat) (F : Nat → Nat) : ∀ n, prd (fun i => a * F i) n = a ^ n * prd F n
  | 0 => by simp [prd]
  | n + 1 => by
    show prd (fun i => a * F i) n * (a * F n) = a ^ (n + 1) * (prd F n * F n)
    rw [prd_mul a F n, Nat.pow_succ, Nat.mul_assoc, Nat.mul_assoc, ← Nat.mul_assoc (prd F n), ← Nat.mul_assoc a, Nat.mul_comm (prd F n) a]
theorem prd_free {p : Nat} (hp : IsPr p) (F : Nat → Nat) : ∀ n, (∀ i, i < n → ¬ p ∣ F i) → ¬ p ∣ prd F n
  | 0, _ => fun h => by
    have := Nat.le_of_dvd Nat.one_pos h
    have := hp.1
    omega
  | n + 1, h => fun hd => by
    rcases pr_mul hp (show p ∣ prd F n * F n from hd) with h1 | h1
    · exact prd_free hp F n (fun i hi => h i (by omega)) h1
    · exact h n (by omega) h1
theorem fermat {p a : Nat} (hp : IsPr p) (ha : ¬ p ∣ a) : a ^ (p - 1) % p = 1 := by
  have h2 := hp.1
  have hnz : ∀ i, i < p - 1 → a * (i + 1) % p ≠ 0 := fun i hi h => by
    rcases pr_mul hp (Nat.dvd_of_mod_eq_zero h) with h | h
    · exact ha h
    · have := Nat.le_of_dvd (by omega) h
      omega
  have hlt : ∀ i, a * (i + 1) % p < p := fun i => Nat.mod_lt _ (by omega)
  have ht := prd_turn (fun i => i + 1) (p - 1) (fun i => a * (i + 1) % p - 1) (fun i hi => by
    have := hnz i hi
    have := hlt i
    show a * (i + 1) % p - 1 < p - 1
    omega) (fun i j hi hj e => by
    have h1 := hnz i hi
    have h3 := hnz j hj
    have e' : a * (i + 1) % p = a * (j + 1) % p := by omega
    have key : ∀ x y, x ≤ y → y < p - 1 → a * (x + 1) % p = a * (y + 1) % p → x = y := fun x y hxy hy e => by
      have hd : p ∣ a * (y + 1) - a * (x + 1) := by
        refine Nat.dvd_of_mod_eq_zero (Nat.sub_mod_eq_zero_of_mod_eq e.symm)
      rw [← Nat.mul_sub] at hd
      rcases pr_mul hp hd with h | h
      · exact absurd h ha
      · rcases Nat.eq_zero_or_pos (y + 1 - (x + 1)) with h0 | h0
        · omega
        · have := Nat.le_of_dvd h0 h
          omega
    rcases Nat.le_total i j with h | h
    · exact key i j h hj e'
    · exact (key j i h hi e'.symm).symm)
  have hs : prd (fun i => (a * (i + 1) % p - 1) + 1) (p - 1) = prd (fun i => a * (i + 1) % p) (p - 1) := prd_congr _ fun i hi => by
    have := hnz i hi
    omega
  have hm : a ^ (p - 1) * prd (fun i => i + 1) (p - 1) % p = prd (fun i => i + 1) (p - 1) % p := by
    rw [← prd_mul, ← prd_mod (fun i => a * (i + 1)) p, ← hs, ht]
  have hfree := prd_free hp (fun i => i + 1) (p - 1) (fun i hi h => by
    have := Nat.le_of_dvd (by omega) h
    omega)
  have ha0 : 1 ≤ a ^ (p - 1) := Nat.pow_pos (Nat.pos_of_ne_zero fun h => ha (h ▸ Nat.dvd_zero p))
  generalize prd (fun i => i + 1) (p - 1) = X at *
  generalize a ^ (p - 1) = Y at *
  have hd : p ∣ Y * X - 1 * X := Nat.dvd_of_mod_eq_zero (Nat.sub_mod_eq_zero_of_mod_eq (by rw [Nat.one_mul]; exact hm))
  rw [← Nat.sub_mul] at hd
  rcases pr_mul hp hd with h | h
  · exact mod_one_of (by omega) h ha0
  · exact absurd h hfree
theorem pow_gcd {a p : Nat} (hp : 1 < p) (m n : Nat) : a ^ m % p = 1 → a ^ n % p = 1 → a ^ Nat.gcd m n % p = 1 := by
  induction m, n using Nat.gcd.induction with
  | H0 n => intro _ h; rwa [Nat.gcd_zero_left]
  | H1 m n hm ih =>
    intro h1 h2
    rw [Nat.gcd_rec]
    refine ih ?_ h1
    have h3 : a ^ (m * (n / m) + n % m) % p = a ^ (n % m) % p := by
      rw [Nat.pow_add, Nat.pow_mul, Nat.mul_mod, Nat.pow_mod (a ^ m), h1, Nat.one_pow, Nat.mod_eq_of_lt hp, Nat.one_mul, Nat.mod_mod]
    rw [Nat.div_add_mod] at h3
    rw [← h3]; exact h2
theorem pock_step {p q M e a : Nat} (hp : IsPr p) (hq : IsPr q) (he : q ^ e ∣ M) (ha : ¬ p ∣ a) (h1 : a ^ M % p = 1) (h2 : a ^ (M / q) % p ≠ 1) : q ^ e ∣ p - 1 := by
  have hg := pow_gcd (by have := hp.1; omega) M (p - 1) h1 (fermat hp ha)
  have hd := Nat.gcd_dvd_right M (p - 1)
  obtain ⟨h, hh⟩ := Nat.gcd_dvd_left M (p - 1)
  generalize Nat.gcd M (p - 1) = g at *
  by_cases hqh : q ∣ h
  · obtain ⟨h', rfl⟩ := hqh
    refine absurd ?_ h2
    have : M / q = g * h' := by rw [hh, Nat.mul_left_comm, Nat.mul_div_cancel_left _ (by have := hq.1; omega)]
    rw [this, Nat.pow_mul, Nat.pow_mod, hg, Nat.one_pow, Nat.mod_eq_of_lt (by have := hp.1; omega)]
  · exact Nat.dvd_trans (pr_power hq hqh (hh ▸ he)) hd
theorem prd_dvd {P E : Nat → Nat} {X : Nat} : ∀ k, (∀ i, i < k → IsPr (P i)) → (∀ i j, i < j → j < k → P i < P j) → (∀ i, i < k → P i ^ E i ∣ X) → prd (fun i => P i ^ E i) k ∣ X
  | 0, _, _, _ => Nat.one_dvd X
  | k + 1, hp, hr, hd => by
    show prd (fun i => P i ^ E i) k * P k ^ E k ∣ X
    refine Nat.Coprime.mul_dvd_of_dvd_of_dvd (Nat.Coprime.symm (Nat.Coprime.pow_left (E k) (pr_gcd (hp k (by omega)) (prd_free (hp k (by omega)) _ k fun i hi h => ?_)))) (prd_dvd k (fun i hi => hp i (by omega)) (fun i j h1 h2 => hr i j h1 (by omega)) fun i hi => hd i (by omega)) (hd k (by omega))
    have h1 := pr_pow (hp k (by omega)) (E i) h
    rcases (hp i (by omega)).2 _ h1 with h2 | h2
    · have := (hp k (by omega)).1
      omega
    · have := hr i k hi (by omega)
      omega
def IsMost (q M x : Nat) : Prop := ∃ e, x = q ^ e ∧ q ^ e ∣ M ∧ ¬ q ^ (e + 1) ∣ M
theorem most_one {q M x y : Nat} (hx : IsMost q M x) (hy : IsMost q M y) : x = y := by
  obtain ⟨e, rfl, h1, h2⟩ := hx
  obtain ⟨f, rfl, h3, h4⟩ := hy
  have key : ∀ a b, q ^ b ∣ M → ¬ q ^ (a + 1) ∣ M → b ≤ a := fun a b hb ha => by
    rcases Nat.lt_or_ge a b with h | h
    · exact absurd (Nat.dvd_trans (Nat.pow_dvd_pow q h) hb) ha
    · exact h
  have := key e f h3 h2
  have := key f e h1 h4
  rw [show e = f by omega]
theorem pocklington {n t k : Nat} {P Q : Nat → Nat} (h2 : 2 ≤ n) (hp : ∀ i, i < k → IsPr (P i)) (hr : ∀ i j, i < j → j < k → P i < P j) (hm : ∀ i, i < k → IsMost (P i) (n - 1) (Q i)) (h1 : ∀ i, i < k → Q i ≠ 1)
    (hF : n < prd Q k * prd Q k) (ht : t ^ (n - 1) % n = 1) (hg : ∀ i, i < k → Nat.gcd ((t ^ ((n - 1) / P i) % n + (n - 1)) % n) n = 1) : IsPr n := by
  refine Classical.byContradiction fun hn => ?_
  obtain ⟨p, pp, hpn, hpp⟩ := pr_root h2 hn
  have p2 := pp.1
  have ht' : t ^ (n - 1) % p = 1 := by rw [← Nat.mod_mod_of_dvd _ hpn, ht, Nat.mod_eq_of_lt (by omega)]
  have hpt : ¬ p ∣ t := fun h => by
    have : t ^ (n - 1) % p = 0 := Nat.mod_eq_zero_of_dvd (Nat.dvd_trans h (by obtain ⟨k, hk⟩ : ∃ k, n - 1 = k + 1 := ⟨n - 2, by omega⟩; rw [hk, Nat.pow_succ]; exact Nat.dvd_mul_left t _))
    omega
  have hex : ∃ E : Nat → Nat, ∀ i, i < k → Q i = P i ^ E i ∧ P i ^ E i ∣ n - 1 := by
    refine ⟨fun i => if h : i < k then Classical.choose (hm i h) else 0, fun i hi => ?_⟩
    simp only [hi, dite_true]
    exact ⟨(Classical.choose_spec (hm i hi)).1, (Classical.choose_spec (hm i hi)).2.1⟩
  obtain ⟨E, hE⟩ := hex
  have hdv : prd (fun i => P i ^ E i) k ∣ p - 1 := by
    refine prd_dvd k hp hr fun i hi => pock_step pp (hp i hi) (hE i hi).2 hpt ht' fun h => ?_
    have hy : t ^ ((n - 1) / P i) % n % p = 1 := by rw [Nat.mod_mod_of_dvd _ hpn, h]
    have hlt : t ^ ((n - 1) / P i) % n < n := Nat.mod_lt _ (by omega)
    have hgi := hg i hi
    generalize t ^ ((n - 1) / P i) % n = y at *
    have hy1 : 1 ≤ y := by
      rcases Nat.eq_zero_or_pos y with h0 | h0
      · rw [h0, Nat.zero_mod] at hy; omega
      · exact h0
    have e : (y + (n - 1)) % n = y - 1 := by
      rw [show y + (n - 1) = y - 1 + n by omega, Nat.add_mod_right, Nat.mod_eq_of_lt (by omega)]
    rw [e] at hgi
    have hd : p ∣ y - 1 := Nat.dvd_of_mod_eq_zero (Nat.sub_mod_eq_zero_of_mod_eq (by rw [hy, Nat.mod_eq_of_lt (by omega)]))
    have := Nat.le_of_dvd Nat.one_pos (hgi ▸ Nat.dvd_gcd hd hpn)
    omega
  rw [← prd_congr k fun i hi => (hE i hi).1] at hdv
  have hle := Nat.le_of_dvd (by omega) hdv
  have := Nat.mul_le_mul (show prd Q k + 1 ≤ p by omega) (show prd Q k + 1 ≤ p by omega)
  have h5 : (prd Q k + 1) * (prd Q k + 1) = prd Q k * prd Q k + 2 * prd Q k + 1 := by rw [Nat.add_mul, Nat.mul_add]; omega
  omega
end Go.Proofs.Ytdagdfcbnhfdkaa
namespace Go.Proofs.Ytdagdfcbnhfdkaa
open Go.RowKit
inductive RT where
  | leaf
  | node (n t k : Nat) (p : Nat → RT)
def RT.num : RT → Nat
  | .leaf => 0
  | .node n _ _ _ => n
def smr (f : Nat → Nat) : Nat → Nat
  | 0 => 0
  | n + 1 => smr f n + f n
theorem smr_mono (f : Nat → Nat) : ∀ i j, i ≤ j → smr f i ≤ smr f j
  | i, 0, h => by obtain rfl : i = 0 := by omega
                  exact Nat.le_refl _
  | i, j + 1, h => by
    by_cases e : i = j + 1
    · rw [e]; exact Nat.le_refl _
    · have := smr_mono f i j (by omega)
      show smr f i ≤ smr f j + f j
      omega
theorem smr_ge (f : Nat → Nat) (h : ∀ i, 1 ≤ f i) : ∀ n, n ≤ smr f n
  | 0 => Nat.le_refl _
  | n + 1 => by
    have := smr_ge f h n
    have := h n
    show n + 1 ≤ smr f n + f n
    omega
def cntR : RT → Nat
  | .leaf => 1
  | .node _ _ k p => 1 + smr (fun i => cntR (p i)) k
theorem cntR_pos : ∀ r, 1 ≤ cntR r
  | .leaf => Nat.le_refl 1
  | .node _ _ k p => by unfold cntR; omega
theorem cntR_len (n t k : Nat) (p : Nat → RT) : k < cntR (.node n t k p) := by
  have := smr_ge (fun i => cntR (p i)) (fun i => cntR_pos _) k
  show k < 1 + smr (fun i => cntR (p i)) k
  omega
noncomputable def facB (Q : Nat → Nat) : Nat → Nat
  | 0 => 1
  | i + 1 => facB Q i * Q i % B
theorem facB_lt (Q : Nat → Nat) (k : Nat) : facB Q k < B := by
  cases k with
  | zero => show 1 < B; exact lt_B (by decide)
  | succ k => exact Nat.mod_lt _ B_pos
noncomputable def mostN : Nat → Nat → Nat := opq fun q M => open Classical in if h : ∃ x, IsMost q M x then Classical.choose h else 0
theorem mostN_is {q M x : Nat} (h : IsMost q M x) : mostN q M = x := by
  unfold mostN
  rw [xBy, dif_pos ⟨x, h⟩]
  exact most_one (Classical.choose_spec (⟨x, h⟩ : ∃ x, IsMost q M x)) h
theorem most_is {q M : Nat} (hq : 2 ≤ q) (hM : 0 < M) : IsMost q M (mostN q M) := by
  have key : ∀ f e, q ^ e ∣ M → M < q ^ (e + f) → ∃ x, IsMost q M x := by
    intro f
    induction f with
    | zero => intro e h1 h2; have := Nat.le_of_dvd hM h1; rw [Nat.add_zero] at h2; omega
    | succ f ih =>
      intro e h1 h2
      by_cases h : q ^ (e + 1) ∣ M
      · exact ih (e + 1) h (by rwa [show e + 1 + f = e + (f + 1) by omega])
      · exact ⟨_, e, rfl, h1, h⟩
  obtain ⟨x, hx⟩ := key M 0 (by rw [Nat.pow_zero]; exact Nat.one_dvd M) (by rw [Nat.zero_add]; exact Nat.lt_of_lt_of_le Nat.lt_two_pow_self (Nat.pow_le_pow_left hq M))
  rw [mostN_is hx]
  exact hx
theorem most_lt {q M : Nat} (hq : 2 ≤ q) (hM : 0 < M) (hB : M < B) : 1 ≤ mostN q M ∧ mostN q M < B := by
  obtain ⟨e, he, h1, _⟩ := most_is hq hM
  rw [he]
  exact ⟨Nat.pow_pos (by omega), Nat.lt_of_le_of_lt (Nat.le_of_dvd hM h1) hB⟩
def witR (n t k : Nat) (P : Nat → Nat) : Prop := 1 < t ∧ t < n ∧ powN t (n - 1) n = 1 ∧ ∀ i, i < k → gcdN (subN (powN t ((n - 1) / P i) n) 1 n) n = 1
def xCl : RT → Prop
  | .leaf => False
  | .node n t k p => (n < 4294967296 ∧ IsSmall n ∧ t = 0 ∧ k = 0) ∨ (4294967296 ≤ n ∧ n < B ∧ (∀ i, i < k → xCl (p i) ∧ (i = 0 ∨ (p (i - 1)).num < (p i).num) ∧ mostN (p i).num (n - 1) ≠ 1) ∧
      n < facB (fun i => mostN (p i).num (n - 1)) k * facB (fun i => mostN (p i).num (n - 1)) k ∧ witR n t k fun i => (p i).num)
theorem small_isPr {q : Nat} (hq : IsSmall q) : IsPr q := by
  refine ⟨hq.1, fun d hd => ?_⟩
  refine Classical.byContradiction fun hn => ?_
  have hnp : ¬ IsPr q := fun h => hn (h.2 d hd)
  obtain ⟨p, hp, hpq, hpp⟩ := pr_root hq.1 hnp
  exact hq.2.2 p hp.1 hpp (Nat.mod_eq_zero_of_dvd hpq)
theorem good_pr : ∀ r, xCl r → IsPr r.num
  | .leaf, h => h.elim
  | .node n t k p, h => by
    rcases h with ⟨_, h, _, _⟩ | ⟨h32, hB, hp, hF, h1, h2, h3, h4⟩
    · exact small_isPr h
    · have hpr : ∀ i, i < k → IsPr (p i).num := fun i hi => good_pr (p i) (hp i hi).1
      have hr : ∀ i j, i < j → j < k → (p i).num < (p j).num := fun i j => by
        induction j with
        | zero => intro h; exact absurd h (Nat.not_lt_zero i)
        | succ j ih =>
          intro hij hj
          have hs : (p j).num < (p (j + 1)).num := by
            rcases (hp (j + 1) hj).2.1 with h | h
            · omega
            · exact h
          rcases Nat.lt_or_ge i j with h | h
          · exact Nat.lt_trans (ih h (by omega)) hs
          · obtain rfl : i = j := by omega
            exact hs
      have hm : ∀ i, i < k → IsMost (p i).num (n - 1) (mostN (p i).num (n - 1)) := fun i hi => most_is (hpr i hi).1 (by omega)
      have hdv : ∀ i, i ≤ k → prd (fun i => mostN (p i).num (n - 1)) i ∣ n - 1 := fun j hj => by
        have hE : ∃ E : Nat → Nat, ∀ i, i < j → mostN (p i).num (n - 1) = (p i).num ^ E i ∧ (p i).num ^ E i ∣ n - 1 := by
          refine ⟨fun i => if h : i < k then Classical.choose (hm i h) else 0, fun i hi => ?_⟩
          have hik : i < k := by omega
          simp only [hik, dite_true]
          exact ⟨(Classical.choose_spec (hm i hik)).1, (Classical.choose_spec (hm i hik)).2.1⟩
        obtain ⟨E, hE⟩ := hE
        rw [prd_congr j fun i hi => (hE i hi).1]
        exact prd_dvd j (fun i hi => hpr i (by omega)) (fun a b h1 h2 => hr a b h1 (by omega)) fun i hi => (hE i hi).2
      have hf : ∀ i, i ≤ k → facB (fun i => mostN (p i).num (n - 1)) i = prd (fun i => mostN (p i).num (n - 1)) i := fun i => by
        induction i with
        | zero => intro _; rfl
        | succ i ih =>
          intro hi
          have h5 := Nat.le_of_dvd (by omega) (hdv (i + 1) hi)
          show facB _ i * mostN (p i).num (n - 1) % B = prd _ i * mostN (p i).num (n - 1)
          rw [ih (by omega)]
          have e : prd (fun i => mostN (p i).num (n - 1)) (i + 1) = prd (fun i => mostN (p i).num (n - 1)) i * mostN (p i).num (n - 1) := rfl
          rw [e] at h5
          exact Nat.mod_eq_of_lt (by omega)
      rw [hf k (Nat.le_refl k)] at hF
      refine pocklington (t := t) (show 2 ≤ n by omega) hpr hr hm (fun i hi => (hp i hi).2.2) hF (by rw [← powN_def]; exact h3) fun i hi => ?_
      have := h4 i hi
      rwa [gcdN_def, subN_def, powN_def] at this
end Go.Proofs.Ytdagdfcbnhfdkaa
