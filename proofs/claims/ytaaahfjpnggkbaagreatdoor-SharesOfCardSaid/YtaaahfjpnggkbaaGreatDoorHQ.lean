import Derived.Test.YtaaahfjpnggkbaaGreatDoorHA
import Derived.Test.YtaaahfjpnggkbaaGreatDoorHScalOf
import Derived.Test.YtaaahfjpnggkbaaGreatDoorHI
import Derived.Deep.Upon
set_option linter.unusedSimpArgs false
set_option linter.unusedVariables false
set_option maxRecDepth 100000
set_option maxHeartbeats 20000000
namespace Go.Proofs.YtaaahfjpnggkbaaGreatDoor
open Go.RowKit
section
section
variable {q : Nat} [NeZero q]
def H (P : Nat → Fin q) : Nat → Fin q → Fin q
 | 0, _ => 0
 | n + 1, x => P 0 + x * H (fun j => P (j + 1)) n x
theorem H_congr {P Q : Nat → Fin q} : ∀ {n : Nat}, (∀ j, j < n → P j = Q j) → ∀ x, H P n x = H Q n x := by
 intro n
 induction n generalizing P Q with
 | zero => intro _ x; rfl
 | succ n ih =>
  intro h x
  rw [H, H, h 0 (by omega), ih (fun j hj => h (j + 1) (by omega))]
theorem H_last {P : Nat → Fin q} : ∀ (n : Nat) (x : Fin q), H P (n + 1) x = H P n x + P n * x ^ n := by
 intro n
 induction n generalizing P with
 | zero => intro x; simp only [H]; grind
 | succ n ih =>
  intro x
  rw [H, ih, H]
  grind
omit [NeZero q] in
end
end
section
attribute [local irreducible] Calls
theorem so_lit {p q g h r : Nat} {n : Int} (hq : q < B) (b0 : -9223372036854775808 ≤ n) (b1 : n < 9223372036854775808) (hr : sOf q n = r) (w : World) : Calls Tryz.prog 103 #[grp p q g h, .int .i64 n] w fun e w' =>
  e = .returned (num r) ∧ Below w.heap.size w w' := by
 have := sof_any p q g h n hq b0 b1 w
 rwa [hr] at this
end
section
theorem sOf_one {q : Nat} (h : 1 < q) : sOf q 1 = 1 := by
 have a := sOf_cast h 1
 rw [Int.emod_eq_of_lt (by decide) (by omega)] at a
 omega
section
variable {p q g h : Nat}
theorem SO {n : Int} {r : Nat} (hq : q < B) (b0 : -9223372036854775808 ≤ n) (b1 : n < 9223372036854775808) (hr : sOf q n = r) : ∀ w, Calls Tryz.prog 103 #[grp p q g h, .int .i64 n] w fun e w' => e = .returned (num r) ∧ Below w.heap.size w w' :=
 so_lit hq b0 b1 hr
end
end
section
section
variable {q : Nat} [NeZero q]
def fi (q : Nat) [NeZero q] (a : Nat) : Fin q := Fin.ofNat q a
theorem xFs (a : Nat) : (fi q a).val = a % q := rfl
theorem fi_inj {a b : Nat} (ha : a < q) (hb : b < q) (h : fi q a = fi q b) : a = b := by
 have := congrArg Fin.val h
 rw [xFs, xFs, Nat.mod_eq_of_lt ha, Nat.mod_eq_of_lt hb] at this
 exact this
theorem fi_mod (a : Nat) : fi q (a % q) = fi q a := Fin.ext (by rw [xFs, xFs, Nat.mod_mod])
theorem fi_of (x : Fin q) : fi q x.val = x := Fin.ext (by rw [xFs, Nat.mod_eq_of_lt x.isLt])
theorem fi_add (a b : Nat) : fi q (a + b) = fi q a + fi q b := Fin.ext (by rw [Fin.val_add, xFs, xFs, xFs]; simp [Nat.add_mod])
theorem fi_mul (a b : Nat) : fi q (a * b) = fi q a * fi q b := Fin.ext (by rw [Fin.val_mul, xFs, xFs, xFs]; simp [Nat.mul_mod])
theorem fi_zero : fi q 0 = 0 := Fin.ext (by rw [xFs]; simp)
theorem xJo (a b : Nat) : fi q (mulN a b q) = fi q a * fi q b := by rw [xCm, fi_mod, fi_mul]
theorem fi_addN (a b : Nat) : fi q ((a + b) % q) = fi q a + fi q b := by rw [fi_mod, fi_add]
theorem fi_self : fi q q = 0 := Fin.ext (by rw [xFs]; simp)
theorem fi_subN {a b : Nat} (hb : b < q) : fi q (subN a b q) = fi q a - fi q b := by
 rw [xEi, fi_addN]
 have h : fi q b + fi q (q - b) = 0 := by rw [← fi_add, show b + (q - b) = q by omega, fi_self]
 generalize fi q (q - b) = t at *
 generalize fi q b = s at *
 grind
theorem fi_one (h1 : 1 < q) : fi q (sOf q 1) = 1 := Fin.ext (by rw [xFs, sOf_one h1]; rw [Nat.mod_eq_of_lt h1]; exact (Nat.mod_eq_of_lt h1).symm)
theorem fi_one' (h1 : 1 < q) : fi q 1 = 1 := by rw [← fi_one h1, sOf_one h1]
theorem fi_inv {a : Nat} (h1 : 1 < q) (ha : a < q) (hg : Nat.gcd a q = 1) : fi q a * fi q (invM a q) = 1 := by
 rw [← fi_mul, ← fi_mod, Nat.mul_comm, (xGn h1 ha hg).2, fi_one' h1]
theorem fi_unit {a : Nat} (h1 : 1 < q) {v : Fin q} (h : fi q a * v = 1) : Nat.gcd a q = 1 := by
 have e : a * v.val % q = 1 := by
  have h2 : fi q (a * v.val) = fi q 1 := by rw [fi_mul, fi_of, h, fi_one' h1]
  have := congrArg Fin.val h2
  rw [xFs, xFs, Nat.mod_eq_of_lt h1] at this
  exact this
 have hd : Nat.gcd a q ∣ 1 := by
  have d1 : Nat.gcd a q ∣ a * v.val := Nat.dvd_trans (Nat.gcd_dvd_left a q) (Nat.dvd_mul_right a v.val)
  have := (Nat.dvd_mod_iff (Nat.gcd_dvd_right a q)).2 d1
  rw [e] at this
  exact this
 exact Nat.dvd_one.1 hd
theorem fi_hv {n : Nat} (zs : Nat → Nm q) (x : Nat) : ∀ k, k ≤ n → fi q (hvL x (dnN n zs (n - k))) = H (fun t => fi q (zs (n - k + t)).1) k (fi q x)
  | 0, _ => by rw [Nat.sub_zero, dnN_top, hvL_nil, fi_zero]; rfl
  | k + 1, h => by
    have ih := fi_hv (n := n) zs x k (by omega)
    rw [dnN_succ n zs (show n - (k + 1) < n by omega), hvL_snoc, fi_addN, xJo, show n - (k + 1) + 1 = n - k by omega, ih, H, Nat.add_zero]
    have e : H (fun t => fi q (zs (n - k + t)).1) k (fi q x) = H (fun j => (fun t => fi q (zs (n - (k + 1) + t)).1) (j + 1)) k (fi q x) := H_congr (fun t _ => by show fi q (zs (n - k + t)).1 = fi q (zs (n - (k + 1) + (t + 1))).1; rw [show n - (k + 1) + (t + 1) = n - k + t by omega]) _
    rw [e]
    grind
theorem fi_at {n : Nat} (zs : Nat → Nm q) {f : Nat → Nat} (hz : ∀ j, j < n → (zs j).1 = f j) (x : Nat) : fi q (hvL x (dnN n zs 0)) = H (fun j => fi q (f j)) n (fi q x) := by
 have := fi_hv zs x n (Nat.le_refl n)
 rw [Nat.sub_self] at this
 rw [this]
 exact H_congr (fun t ht => by show fi q (zs (0 + t)).1 = _; rw [Nat.zero_add, hz t ht]) _
def PS (G : Nat → Fin q) (i : Nat) : Nat → Fin q
 | 0 => 1
 | k + 1 => if k = i then PS G i k else PS G i k * G k
theorem PS_div {G : Nat → Fin q} {i j : Nat} (hij : j ≠ i) : ∀ k, j < k → ∃ r, PS G i k = G j * r
  | 0, h => absurd h (by omega)
  | k + 1, h => by
    by_cases e : j = k
    · subst e
      exact ⟨PS G i j, by rw [PS, if_neg hij]; grind⟩
    · obtain ⟨r, hr⟩ := PS_div (G := G) hij k (by omega)
      by_cases hk : k = i
      · exact ⟨r, by rw [PS, if_pos hk, hr]⟩
      · exact ⟨r * G k, by rw [PS, if_neg hk, hr]; grind⟩
theorem cnt_end {i n : Nat} (hi : i < n) : cntN i n = n - 1 := by unfold cntN; rw [if_neg (by omega)]
theorem fi_oth {f : Nat → Nat} {n i b x : Nat} (hf : ∀ j, j < n → f j < q) (hi : i < n) : fi q (prodS q b (othF q f i x) (n - 1)) = fi q b * PS (fun t => fi q x - fi q (f t)) i n := by
 have key : ∀ k, k ≤ n → fi q (prodS q b (othF q f i x) (cntN i k)) = fi q b * PS (fun t => fi q x - fi q (f t)) i k := by
  intro k
  induction k with
  | zero => intro _; rw [show cntN i 0 = 0 by unfold cntN; simp, prodS, PS]; grind
  | succ k ih =>
   intro hk'
   by_cases hk : k = i
   ·rw [PS, if_pos hk, ← ih (by omega), hk, cnt_same]
   ·rw [PS, if_neg hk, cnt_next hk, prodS, xJo, ih (by omega)]
    unfold othF
    rw [skip_cnt hk, fi_subN (hf k (by omega))]
    grind
 rw [← cnt_end hi]
 exact key n (Nat.le_refl n)
theorem fi_vu {n : Nat} {f : Nat → Nat} (h1 : 1 < q) (hf : ∀ j, j < n → f j < q) {i : Nat} (hi : i < n) (hg : Nat.gcd (uF q n f i) q = 1) : fi q (vF q n f i) * PS (fun t => fi q (f i) - fi q (f t)) i n = 1 := by
 have e1 : fi q (uF q n f i) = PS (fun t => fi q (f i) - fi q (f t)) i n := by
  unfold uF
  rw [fi_oth hf hi, fi_one h1]
  grind
 have l := uF_lt (f := f) (n := n) h1 i
 have e2 : vF q n f i = invM (uF q n f i) q := by unfold vF; rw [if_pos ⟨h1, l⟩]
 rw [← e1, e2]
 have := fi_inv h1 l hg
 grind
theorem u_unit {n : Nat} {f : Nat → Nat} (h1 : 1 < q) (hf : ∀ j, j < n → f j < q) {i : Nat} (hi : i < n) {v : Fin q} (h : PS (fun t => fi q (f i) - fi q (f t)) i n * v = 1) : Nat.gcd (uF q n f i) q = 1 := by
 have e1 : fi q (uF q n f i) = PS (fun t => fi q (f i) - fi q (f t)) i n := by
  unfold uF
  rw [fi_oth hf hi, fi_one h1]
  grind
 exact fi_unit h1 (by rw [e1]; exact h)
omit [NeZero q] in
theorem wtE_all {n : Nat} {f : Nat → Nat} (h1 : 1 < q) : ∀ i, wtE q n f i = 0 ↔ ∀ t, t < i → Nat.gcd (uF q n f t) q = 1
  | 0 => ⟨fun _ t ht => absurd ht (by omega), fun _ => rfl⟩
  | i + 1 => by
    have ih := wtE_all (n := n) (f := f) h1 i
    have hE : invE (uF q n f i) q = if Nat.gcd (uF q n f i) q = 1 then 0 else 7 := by unfold invE; rw [if_pos ⟨h1, uF_lt h1 i⟩]
    rw [wtE, hE]
    unfold xJp
    constructor
    · intro h
      by_cases h0 : wtE q n f i = 0
      · rw [if_pos h0] at h
        have hg : Nat.gcd (uF q n f i) q = 1 := by
          by_cases hg : Nat.gcd (uF q n f i) q = 1
          · exact hg
          · rw [if_neg hg] at h; omega
        intro t ht
        by_cases e : t = i
        · rw [e]; exact hg
        · exact ih.1 h0 t (by omega)
      · rw [if_neg h0] at h
        exact absurd h h0
    · intro h
      have h0 := ih.2 fun t ht => h t (by omega)
      rw [if_pos h0, if_pos (h i (by omega))]
theorem fi_wt {n : Nat} {f : Nat → Nat} (hf : ∀ j, j < n → f j < q) {i : Nat} (hi : i < n) (x : Nat) : fi q (wtF q n f x i) = fi q (vF q n f i) * PS (fun t => fi q x - fi q (f t)) i n := by
 unfold wtF
 exact fi_oth hf hi
end
end
section
attribute [local irreducible] Calls
section
variable {p q g h : Nat} {B0 : Nat} {w0 w : World} {L : List (Nat × Obj)} {a b : Option Addr} {n m cp cq : Nat} {f V : Nat → Nat} {x : Nat}
theorem NAt.here (hA : NAt B0 w0 L a n cp f) (hR : Rep B0 w0 L w) : NAt w.heap.size w [] a n cp f :=
 ⟨hA.lec, hA.big, hA.lt, fun hn => by
  obtain ⟨b, o, q1, q2⟩ := hA.at' hn
  exact ⟨b, o, q1, fun w' hw => q2 w' (hR.join hw)⟩⟩
def zsOf (hq : 0 < q) (f : Nat → Nat) (j : Nat) : Nm q := if h : f j < q then ⟨f j, h⟩ else ⟨0, hq⟩
noncomputable def atN (q : Nat) (f : Nat → Nat) (n x : Nat) : Nat := if hq : 0 < q then hvL x (dnN n (zsOf hq f) 0) else 0
theorem atN_lt (h1 : 1 < q) (f : Nat → Nat) (n x : Nat) : atN q f n x < q := by
 unfold atN
 rw [dif_pos (by omega)]
 exact hvL_lt h1 _ _
def okA (q n : Nat) (f : Nat → Nat) (x : Nat) : Prop := (1 < q ∧ ∀ j, j < n → f j < q) ∧ x < q
theorem at_yes (hp : p < B) (hq : q < B) (hn : n ≤ 1000) (hA : NAt B0 w0 L a n cp f) (hok : okA q n f x) (hR : Rep B0 w0 L w) : Calls Tryz.prog 8 #[grp p q g h, .slice a n cp, num x] w fun en w' => en = .returned (.tuple #[num (atN q f n x), .int .i64 0]) ∧ Rep B0 w0 L w' := by
 obtain ⟨⟨h1, hf⟩, hx⟩ := hok
 have hq0 : 0 < q := by omega
 refine (at_go (g := g) (h := h) hp hq (hA.here hR) (by omega) h1 hf hx (zsOf hq0 f) (fun j hj => by unfold zsOf; rw [dif_pos (hf j hj)])).mono fun e w' ⟨h1, h2⟩ => ⟨?_, hR.call h2⟩
 rw [h1]
 unfold atN
 rw [dif_pos hq0]
theorem at_no (hp : p < B) (hq : q < B) (hx : x < B) (hn : n ≤ 1000) (hA : NAt B0 w0 L a n cp f) (hok : ¬ okA q n f x) (hR : Rep B0 w0 L w) : Calls Tryz.prog 8 #[grp p q g h, .slice a n cp, num x] w fun en w' => en = .returned (.tuple #[num 0, .int .i64 1]) ∧ Rep B0 w0 L w' :=
 (at_bad (g := g) (h := h) hp hq hx (hA.here hR) (by omega) hok).mono fun e w' ⟨h1, h2⟩ => ⟨h1, hR.call h2⟩
def okW (q n : Nat) (f : Nat → Nat) (x : Nat) : Prop := ptsOK q n f ∧ x < q
theorem weights_no (hp : p < B) (hq : q < B) (hx : x < B) (hn : n ≤ 1000) (hA : NAt B0 w0 L a n cp f) (hok : ¬ okW q n f x) (hR : Rep B0 w0 L w) : Calls Tryz.prog 9 #[grp p q g h, .slice a n cp, num x] w fun en w' => en = .returned (.tuple #[.slice none 0 0, .int .i64 1]) ∧ Rep B0 w0 L w' :=
 (weights_bad (g := g) (h := h) hp hq hx (hA.here hR) (by omega) hok).mono fun e w' ⟨h1, h2⟩ => ⟨h1, hR.call h2⟩
theorem weights_err (hp : p < B) (hq : q < B) (hn : n ≤ 1000) (hA : NAt B0 w0 L a n cp f) (hok : okW q n f x) (hE : wtE q n f n ≠ 0) (hR : Rep B0 w0 L w) : Calls Tryz.prog 9 #[grp p q g h, .slice a n cp, num x] w fun en w' => en = .returned (.tuple #[.slice none 0 0, .int .i64 7]) ∧ Rep B0 w0 L w' :=
 (weights_go (g := g) (h := h) hp hq (hA.here hR) (by omega) hok.1 hok.2).mono fun e w' h => h.elim (fun ⟨h0, _⟩ => absurd h0 hE) fun ⟨_, h1, h2⟩ => ⟨h1, hR.call h2⟩
theorem weights_yes (hp : p < B) (hq : q < B) (hn : n ≤ 1000) (hA : NAt B0 w0 L a n cp f) (hok : okW q n f x) (hE : wtE q n f n = 0) (hR : Rep B0 w0 L w) : Calls Tryz.prog 9 #[grp p q g h, .slice a n cp, num x] w fun en w' => ∃ gb, en = .returned (.tuple #[.slice (some ⟨gb, 0, none⟩) n n, .int .i64 0]) ∧ ∃ cur : List Value, NOwn n cur n (wtF q n f x) ∧ Rep B0 w0 ((gb, .cells cur.toArray 24) :: L) w' :=
 (weights_go (g := g) (h := h) hp hq (hA.here hR) (by omega) hok.1 hok.2).mono fun e w' h => h.elim (fun ⟨_, gb, h1, cur, h2, h3⟩ => ⟨gb, h1, cur, h2, hR.join h3⟩) fun ⟨h0, _⟩ => absurd hE h0
end
end
section
end
section
section
variable {q n : Nat} {P Q : Nat → Nat} {x c : Nat}
end
end
section
attribute [local irreducible] Calls Instr.build Instr.buildSlice
section
variable {w w0 : World} {B0 : Nat} {R M : List (Nat × Obj)}
theorem appOne_run {ty : TypeId} {x : GrN} {n : Nat} {f : Nat → Nat} {b v : Nat} (hR : Rep B0 w0 M w) (hp : M.Perm ((b, .cells (nl v).toArray 24) :: (x.bl ++ R))) (hg : xCc x n f) (hv : f n = v) (hbig : n ≤ 1000000) :
  ∃ (x' : GrN) (w' : World), (Builtin.append_ #[27, 27] ty #[.slice x.a n x.cap, .slice (some ⟨b, 0, none⟩) 1 1]).run Tryz.prog w = .ok (.slice x'.a (n + 1 : Nat) x'.cap) w' ∧ xCc x' (n + 1) f ∧ Rep B0 w0 (x'.bl ++ R) w' := by
 subst hv
 replace hR := hR.permN hp
 obtain ⟨i, z, hi, hz, hzs, hsize, hby⟩ := xFq
 have hnews : ∀ j u, (nl (f n))[j]? = some u → w.cell? ((⟨b, 0, none⟩ : Addr).add j) = some u := fun j u hj => by
  rw [xBw, Nat.zero_add]
  exact hR.cell (.head _) hj
 have hR0 : Rep B0 w0 (x.bl ++ R) w := hR.dropN
 have hm63 : n + 1 ≤ maxLen := by unfold maxLen; omega
 have hmb : (n + 1) * 32 ≤ 140737488355328 := by omega
 rcases hg with ⟨rfl, rfl⟩ | ⟨g, cur, ha, hbl, h1, h2, h3, h4⟩
 ·obtain ⟨v', w', hr, hO, hgr, hiff, hat⟩ := run_append_own_at (P := Tryz.prog) w B0 27 ty 24 i z 4 32 Tryz.underlying27 hi hz hsize hby hzs (by decide) (.slice none 0 0) 0 [] ⟨by simp, .inl ⟨rfl, rfl⟩⟩ ⟨b, 0, none⟩ 1 1 (nl (f 0)) rfl hnews (xGa _) hm63 hmb hR.le
  obtain ⟨hl', ⟨hv, _⟩ | ⟨g', cap', cur', rfl, hB, hh, k2, k3, k4, k5⟩⟩ := hO
  ·exact absurd (hiff.1 hv).2 (by decide)
  ·have hR' := hR0.growN hgr (fun r hr => by cases hr)
   have hgg : g' = w.heap.size := by
    rcases hat with hat | hat
    ·cases hat
    ·exact Option.some.inj hat
   have hR2 := hR'.addN hB hh (fun p hp e => by
    have := hR0.lt hp
    omega)
   refine ⟨⟨some ⟨g', 0, none⟩, cap', [(g', .cells cur'.toList.toArray 24)]⟩, w', hr, .inr ⟨g', cur'.toList, rfl, rfl, k2, k3, by simpa using k4, ?_⟩, ?_⟩
   ·rw [k5]; rfl
   ·simpa using hR2
 ·rw [hbl] at hR0
  have hR1 : Rep B0 w0 ((g, .cells cur.toArray 24) :: R) w := hR0
  rw [ha]
  obtain ⟨v', w', hr, hO, hgr, hiff, hat⟩ := run_append_own_at (P := Tryz.prog) w B0 27 ty 24 i z 4 32 Tryz.underlying27 hi hz hsize hby hzs (by decide) (.slice (some ⟨g, 0, none⟩) n x.cap) n (xFd f n) ⟨by rw [xBb], .inr ⟨g, x.cap, cur.toArray, rfl, (hR1.own _ (.head _)).1, (hR1.own _ (.head _)).2, h1, h2, by simpa using h3, by simpa using h4⟩⟩ ⟨b, 0, none⟩ 1 1 (nl (f n)) rfl hnews (xGa _) hm63 hmb hR.le
  obtain ⟨hl', ⟨hv, _⟩ | ⟨g', cap', cur', rfl, hB, hh, k2, k3, k4, k5⟩⟩ := hO
  ·exact absurd (hiff.1 hv).2 (by decide)
  ·have hR' := hR1.dropN.growN hgr (fun r hr => by
    obtain rfl : g = r := Option.some.inj hr
    exact ⟨(hR1.own _ (.head _)).1, hR1.apartN⟩)
   have hR2 := hR'.addN hB hh (fun p hp e => by
    rcases hat with hat | hat
    ·have hgg : g' = g := Option.some.inj hat
     exact hR1.apartN p hp (e.trans hgg)
    ·have hgg : g' = w.heap.size := Option.some.inj hat
     have := hR1.lt (.tail _ hp)
     omega)
   refine ⟨⟨some ⟨g', 0, none⟩, cap', [(g', .cells cur'.toList.toArray 24)]⟩, w', hr, .inr ⟨g', cur'.toList, rfl, rfl, k2, k3, by simpa using k4, ?_⟩, ?_⟩
   ·rw [k5, xCx]
   ·simpa using hR2
end
theorem pB {α : Type _} (L0 Z : List α) (b c : α) : (c :: b :: (L0 ++ Z)).Perm (b :: (Z ++ (c :: L0))) := (List.Perm.swap b c _).trans ((List.perm_append_comm (l₁ := c :: L0)).cons b)
end
end Go.Proofs.YtaaahfjpnggkbaaGreatDoor
