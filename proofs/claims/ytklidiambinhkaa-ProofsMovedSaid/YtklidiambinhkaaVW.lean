/- The laws' own helper of layer 8: alive. -/
import Derived.Test.YtklidiambinhkaaVU
import Derived.Test.YtklidiambinhkaaVProd
import Derived.Test.YtklidiambinhkaaVA
import Derived.Test.YtklidiambinhkaaVQ2
set_option linter.unusedVariables false
set_option linter.unusedSimpArgs false
namespace Go.Proofs.Ytklidiambinhkaa
open Go.RowKit
attribute [local irreducible] Calls
theorem build_nums2 (a b : Nat) (w : World) : (Instr.buildSlice 62 2 #[(0, num a), (1, num b)]).run Try.prog w = .ok (.slice (some ⟨w.heap.size, 0, none⟩) 2 2) (w.alloc (.cells (nl2 a b).toArray 24)) := by
  unfold num nl nl2
  go_simp
theorem numsAt2 {B0 b : Nat} {w0 w : World} {L : List (Nat × Obj)} {m n : Nat} {f : Nat → Nat} (hm : (b, Obj.cells (nl2 m n).toArray 24) ∈ L) (hR : Rep B0 w0 L w) (h0 : f 0 = m) (h1 : f 1 = n) : NumsAt w (some ⟨b, 0, none⟩) 2 f :=
  ⟨fun _ => ⟨b, 0, rfl, hR.lt hm, fun j hj => by
    have c := fun (k : Nat) (v : Value) (hv : (nl2 m n)[k]? = some v) => hR.cell (off := k) hm hv
    have : j = 0 ∨ j = 1 := by omega
    rcases this with rfl | rfl
    · rw [h0]; exact ⟨c 0 _ rfl, c 1 _ rfl, c 2 _ rfl, c 3 _ rfl⟩
    · rw [h1]; exact ⟨c 4 _ rfl, c 5 _ rfl, c 6 _ rfl, c 7 _ rfl⟩⟩⟩
end Go.Proofs.Ytklidiambinhkaa
namespace Go.Proofs.Ytklidiambinhkaa
open Go.RowKit
theorem in_of_pow {p q x : Nat} (h1 : 1 < p) (hx : x < p) (hq : q ≠ 0) (hp : powN x q p = 1) : inG p q x := by
  refine ⟨⟨h1, fun h0 => ?_, hx⟩, hp⟩
  rw [h0, xCd, Nat.zero_pow (by omega), Nat.zero_mod] at hp
  exact absurd hp (by decide)
theorem pow_mod' (a n p : Nat) : (a % p) ^ n % p = a ^ n % p := (Nat.pow_mod a n p).symm
theorem in_exp {p q a : Nat} (hq : q ≠ 0) (ha : inG p q a) (n : Nat) : inG p q (powN a n p) := by
  obtain ⟨⟨h1, _, _⟩, ea⟩ := ha
  refine in_of_pow h1 (pow_lt' h1 a n) hq ?_
  rw [xCd] at ea
  rw [xCd, xCd, pow_mod', ← Nat.pow_mul, Nat.mul_comm, Nat.pow_mul, Nat.pow_mod, ea, Nat.one_pow, Nat.mod_eq_of_lt h1]
theorem pow_red {p q a : Nat} (ha : inG p q a) (n : Nat) : powN a n p = powN a (n % q) p := by
  obtain ⟨⟨h1, _, _⟩, ea⟩ := ha
  rw [xCd] at ea
  rw [xCd, xCd]
  conv => lhs; rw [← Nat.div_add_mod n q]
  rw [Nat.pow_add, Nat.pow_mul, Nat.mul_mod, Nat.pow_mod, ea, Nat.one_pow, Nat.mod_eq_of_lt h1, Nat.one_mul, Nat.mod_mod]
theorem pow_pow (a n k p : Nat) : powN (powN a n p) k p = powN a (n * k) p := by
  rw [xCd, xCd, xCd, pow_mod', ← Nat.pow_mul]
theorem pow_sum (a n k p : Nat) : mulN (powN a n p) (powN a k p) p = powN a (n + k) p := by
  rw [xCs, xCd, xCd, xCd, ← Nat.mul_mod, ← Nat.pow_add]
theorem pow_first {p a : Nat} (ha : a < p) : powN a 1 p = a := by rw [xCd, Nat.pow_one, Nat.mod_eq_of_lt ha]
theorem pow_back {p q a n y : Nat} (ha : inG p q a) (h : n * y % q = 1) : powN (powN a n p) y p = a := by
  rw [pow_pow, pow_red ha, h]
  exact pow_first ha.1.2.2
end Go.Proofs.Ytklidiambinhkaa
namespace Go.Proofs.Ytklidiambinhkaa
open Go.RowKit
attribute [local irreducible] Calls
noncomputable def zsTwo (a n b m : Nat) (ha : a < B) (hn : n < B) (hb : b < B) (hm : m < B) (j : Nat) : Pair := if j = 0 then ⟨(a, n), ha, hn⟩ else ⟨(b, m), hb, hm⟩
theorem prod2_lit {p q g h a b n m r : Nat} {e : Int} (hp : p < B) (hq : q < B) (h1 : 1 < p) (ha : a < B) (hb : b < B) (hn : n < B) (hm : m < B) (hr : (if mayG p a ∧ mayG p b then mulN (powN a n p) (powN b m p) p else 0) = r) (he : (if mayG p a ∧ mayG p b then (0 : Int) else 1) = e)
    {B0 b1 b2 : Nat} {w0 w : World} {L : List (Nat × Obj)} (m1 : (b1, Obj.cells (nl2 a b).toArray 24) ∈ L) (m2 : (b2, Obj.cells (nl2 n m).toArray 24) ∈ L) (hR : Rep B0 w0 L w) : Calls Try.prog 31 #[grp p q g h, .slice (some ⟨b1, 0, none⟩) 2 2, .slice (some ⟨b2, 0, none⟩) 2 2] w fun e' w' =>
    e' = .returned (.tuple #[num r, .int .i64 e]) ∧ Below w.heap.size w w' := by
  have z0 : (zsTwo a n b m ha hn hb hm 0).1 = (a, n) := rfl
  have z1 : (zsTwo a n b m ha hn hb hm 1).1 = (b, m) := rfl
  refine (product_go (q := q) (g := g) (h := h) hp hq h1 (some ⟨b1, 0, none⟩) (some ⟨b2, 0, none⟩) 2 2 2 (zsTwo a n b m ha hn hb hm) (by decide) w (numsAt2 m1 hR (by rw [z0]) (by rw [z1])) (numsAt2 m2 hR (by rw [z0]) (by rw [z1]))).mono ?_
  rintro e' w' ⟨hc, hbw⟩
  refine ⟨?_, hbw⟩
  have hup : up (zsTwo a n b m ha hn hb hm) 2 = [zsTwo a n b m ha hn hb hm 0, zsTwo a n b m ha hn hb hm 1] := rfl
  have hmay : mayAll p (up (zsTwo a n b m ha hn hb hm) 2) ↔ mayG p a ∧ mayG p b := by
    rw [hup]
    constructor
    · intro h
      exact ⟨h _ (.head _), h _ (.tail _ (.head _))⟩
    · rintro ⟨h, h'⟩ x hx
      rcases List.mem_cons.1 hx with rfl | hx
      · exact h
      · rcases List.mem_cons.1 hx with rfl | hx
        · exact h'
        · cases hx
  have hpr : prodL p (up (zsTwo a n b m ha hn hb hm) 2) = mulN (powN a n p) (powN b m p) p := by
    rw [hup]
    show stepP p (stepP p 1 _) _ = _
    rw [stepP_def, stepP_def, z0, z1]
    congr 1
    rw [xCs, Nat.one_mul, Nat.mod_eq_of_lt (pow_lt' h1 a n)]
  rw [hmay] at hc
  rw [hpr] at hc
  rcases hc with ⟨h, rfl⟩ | ⟨h, rfl⟩
  · rw [if_pos h] at hr he
    rw [← hr, ← he]
  · rw [if_neg h] at hr he
    rw [← hr, ← he]
end Go.Proofs.Ytklidiambinhkaa
namespace Go.Proofs.Ytklidiambinhkaa
open Go.RowKit
theorem small_dvd {q d : Nat} (hq : IsSmall q) (hd : d ∣ q) : d = 1 ∨ d = q := by
  obtain ⟨h2, _, hn⟩ := hq
  obtain ⟨e, he⟩ := hd
  have hd0 : d ≠ 0 := fun h => by rw [h, Nat.zero_mul] at he; omega
  have he0 : e ≠ 0 := fun h => by rw [h, Nat.mul_zero] at he; omega
  by_cases h1 : d = 1
  · exact .inl h1
  · by_cases h3 : e = 1
    · exact .inr (by rw [he, h3, Nat.mul_one])
    · exfalso
      rcases Nat.le_total d e with h | h
      · exact hn d (by omega) (by rw [he]; exact Nat.mul_le_mul_left d h) (by rw [he, Nat.mul_mod_right])
      · exact hn e (by omega) (by rw [he]; exact Nat.mul_le_mul_right e h) (by rw [he, Nat.mul_mod_left])
theorem small_gcd {q a : Nat} (hq : IsSmall q) (h0 : a ≠ 0) (ha : a < q) : Nat.gcd a q = 1 := by
  rcases small_dvd hq (Nat.gcd_dvd_right a q) with h | h
  · exact h
  · have := Nat.le_of_dvd (by omega) (Nat.gcd_dvd_left a q)
    omega
theorem pow_cong {p q a n m : Nat} (ha : inG p q a) (h : n % q = m % q) : powN a n p = powN a m p := by
  rw [pow_red ha n, pow_red ha m, h]
theorem pow_nought {p q a n : Nat} (ha : inG p q a) (hq : IsSmall q) (h1 : a ≠ 1) (hn : n < q) (h : powN a n p = 1) : n = 0 := by
  have h2 := hq.1
  rcases Nat.eq_zero_or_pos n with h0 | h0
  · exact h0
  · exfalso
    obtain ⟨l, e⟩ := invM_spec (by omega : 1 < q) hn (small_gcd hq (by omega) hn)
    have := pow_back ha (n := n) (y := invM n q) (by rw [Nat.mul_comm]; exact e)
    rw [h, xCd, Nat.one_pow, Nat.mod_eq_of_lt ha.1.1] at this
    exact h1 this.symm
theorem pow_eq_le {p q a x y : Nat} (ha : inG p q a) (hq : IsSmall q) (h1 : a ≠ 1) (hx : x ≤ y) (hy : y < q) (h : powN a x p = powN a y p) : x = y := by
  have e1 := pow_sum a (q - x) x p
  have e2 := pow_sum a (q - x) y p
  rw [h, e2] at e1
  rw [show q - x + x = q by omega, ha.2, pow_cong ha (show (q - x + y) % q = (y - x) % q by rw [show q - x + y = (y - x) + q by omega, Nat.add_mod_right])] at e1
  have := pow_nought ha hq h1 (by omega) e1
  omega
theorem pow_eq {p q a x y : Nat} (ha : inG p q a) (hq : IsSmall q) (h1 : a ≠ 1) (hx : x < q) (hy : y < q) : powN a x p = powN a y p ↔ x = y := by
  constructor
  · intro h
    rcases Nat.le_total x y with h' | h'
    · exact pow_eq_le ha hq h1 h' hy h
    · exact (pow_eq_le ha hq h1 h' hx h.symm).symm
  · rintro rfl; rfl
theorem back_pow {p q g s c d : Nat} (hg : inG p q g) (h1 : 1 < q) (hc : c < q) : mulN (powN g ((d + mulN s c q) % q) p) (powN (powN g s p) (subN 0 c q) p) p = powN g d p := by
  rw [pow_pow, pow_sum]
  refine pow_cong hg ?_
  rw [xCs, subN_def, Nat.zero_add]
  have e : ((d + s * c % q) % q + s * ((q - c) % q)) % q = (d + s * c + s * (q - c)) % q := by
    rw [Nat.add_mod ((d + s * c % q) % q), Nat.mod_mod, Nat.add_mod d, Nat.mod_mod, ← Nat.add_mod d, Nat.mul_mod s ((q - c) % q), Nat.mod_mod, ← Nat.mul_mod, ← Nat.add_mod]
  rw [e, Nat.add_assoc, ← Nat.mul_add, show c + (q - c) = q by omega, Nat.add_mul_mod_self_right]
theorem sub_cast {a b m : Nat} (hb : b ≤ m) : ((subN a b m : Nat) : Int) = ((a : Int) - b) % m := by
  rw [subN_def, Int.natCast_emod, Int.natCast_add, Int.natCast_sub hb]
  rw [show (a : Int) + ((m : Int) - b) = (a - b) + m by omega, Int.add_emod_right]
theorem emod_dvd (a m : Int) : m ∣ a % m - a := ⟨-(a / m), by have := Int.mul_ediv_add_emod a m; rw [Int.mul_neg]; omega⟩
theorem dvd_lt {q : Nat} {a b : Nat} (ha : a < q) (hb : b < q) (h : (q : Int) ∣ (a : Int) - b) : a = b := by
  obtain ⟨k, hk⟩ := h
  have : k = 0 := by
    rcases Int.lt_trichotomy k 0 with h | h | h
    · have := Int.mul_le_mul_of_nonneg_left (show k ≤ -1 by omega) (show (0 : Int) ≤ q by omega)
      omega
    · exact h
    · have := Int.mul_le_mul_of_nonneg_left (show 1 ≤ k by omega) (show (0 : Int) ≤ q by omega)
      omega
  rw [this, Int.mul_zero] at hk
  omega
theorem mul_cast (a b m : Nat) : ((mulN a b m : Nat) : Int) = ((a : Int) * b) % m := by rw [xCs, Int.natCast_emod, Int.natCast_mul]
theorem two_dvd {q d s c1 c2 : Nat} (h1 : 1 < q) (l1 : c1 < q) (l2 : c2 < q) : (q : Int) ∣ ((subN ((d + mulN s c1 q) % q) ((d + mulN s c2 q) % q) q : Nat) : Int) - s * (subN c1 c2 q : Nat) := by
  have b2 : (d + mulN s c2 q) % q < q := Nat.mod_lt _ (by omega)
  rw [sub_cast (Nat.le_of_lt b2), sub_cast (Nat.le_of_lt l2)]
  obtain ⟨k1, e1⟩ := emod_dvd (((d + mulN s c1 q) % q : Nat) - ((d + mulN s c2 q) % q : Nat)) q
  obtain ⟨k2, e2⟩ := emod_dvd ((c1 : Int) - c2) q
  have f : ∀ c : Nat, ∃ k : Int, (((d + mulN s c q) % q : Nat) : Int) = d + s * c + q * k := fun c => by
    obtain ⟨k, e⟩ := emod_dvd ((d : Int) + mulN s c q) q
    obtain ⟨j, e'⟩ := emod_dvd ((s : Int) * c) q
    refine ⟨k + j, ?_⟩
    rw [Int.natCast_emod, Int.natCast_add]
    rw [← mul_cast] at e'
    rw [Int.mul_add]
    omega
  obtain ⟨j1, f1⟩ := f c1
  obtain ⟨j2, f2⟩ := f c2
  refine ⟨k1 + j1 - j2 - s * k2, ?_⟩
  rw [f1, f2] at e1
  rw [f1, f2]
  generalize ((d : Int) + s * c1 + q * j1 - (d + s * c2 + q * j2)) % q = A at *
  generalize ((c1 : Int) - c2) % q = C at *
  have e2' : C = c1 - c2 + q * k2 := by omega
  subst e2'
  have e1' : A = (d : Int) + s * c1 + q * j1 - (d + s * c2 + q * j2) + q * k1 := by omega
  subst e1'
  grind
theorem two_none {q d s c1 c2 : Nat} (h1 : 1 < q) (l1 : c1 < q) (l2 : c2 < q) (h : subN c1 c2 q = 0) : subN ((d + mulN s c1 q) % q) ((d + mulN s c2 q) % q) q = 0 := by
  have := two_dvd (d := d) (s := s) h1 l1 l2
  rw [h] at this
  refine dvd_lt (q := q) (by rw [subN_def]; exact Nat.mod_lt _ (by omega)) (by omega) ?_
  simpa using this
theorem two_told {q d s c1 c2 : Nat} (hq : IsSmall q) (hs : s < q) (l1 : c1 < q) (l2 : c2 < q) (h : subN c1 c2 q ≠ 0) : Nat.gcd (subN c1 c2 q) q = 1 ∧ mulN (subN ((d + mulN s c1 q) % q) ((d + mulN s c2 q) % q) q) (invM (subN c1 c2 q) q) q = s := by
  have h1 : 1 < q := hq.1
  have lc : subN c1 c2 q < q := by rw [subN_def]; exact Nat.mod_lt _ (by omega)
  have hg := small_gcd hq h lc
  refine ⟨hg, ?_⟩
  obtain ⟨li, ei⟩ := invM_spec h1 lc hg
  obtain ⟨k, hk⟩ := two_dvd (d := d) (s := s) h1 l1 l2
  refine dvd_lt (q := q) (by rw [xCs]; exact Nat.mod_lt _ (by omega)) hs ?_
  rw [mul_cast]
  generalize subN ((d + mulN s c1 q) % q) ((d + mulN s c2 q) % q) q = D at *
  generalize subN c1 c2 q = C at *
  generalize invM C q = I at *
  obtain ⟨j, hj⟩ := emod_dvd ((D : Int) * I) q
  have ei' : ((I : Int) * C) % q = 1 := by have := congrArg (fun n : Nat => (n : Int)) ei; simpa [Int.natCast_emod, Int.natCast_mul] using this
  obtain ⟨i, hi⟩ := emod_dvd ((I : Int) * C) q
  rw [ei'] at hi
  refine ⟨j + k * I - s * i, ?_⟩
  grind
end Go.Proofs.Ytklidiambinhkaa
