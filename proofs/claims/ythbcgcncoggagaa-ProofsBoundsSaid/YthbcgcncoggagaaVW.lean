/- The laws' own helper of layer 8: alive. -/
import Derived.Test.YthbcgcncoggagaaVU
import Derived.Test.YthbcgcncoggagaaVProd
import Derived.Test.YthbcgcncoggagaaVA
import Derived.Test.YthbcgcncoggagaaVQ2
set_option linter.unusedVariables false
set_option linter.unusedSimpArgs false
namespace Go.Proofs.Ythbcgcncoggagaa
open Go.RowKit
attribute [local irreducible] Calls
theorem cut_new {P : Program} {c : Code} {Q : Exit → Act → World → Prop} {l : List Value} {d : List Deferred} {w w0 : World} {B0 : Nat} {L : List (Nat × Obj)} (hR : Rep B0 w0 L w) (mask : List Bool) (upd : Nat → List Value → List Value) (L' : Nat → List (Nat × Obj))
    (h1 : ∀ Q' : Act → World → Prop, Held (∀ g tm w', agree mask (upd g l) tm → Rep B0 w0 (L' g) w' → Q' ⟨tm.toArray, d⟩ w') → c.wp P (Exit.then Q' fun _ _ _ => False) ⟨l.toArray, d⟩ w)
    (h2 : ∀ g tm w', agree mask (upd g l) tm → Rep B0 w0 (L' g) w' → Q .normal ⟨tm.toArray, d⟩ w') : c.wp P Q ⟨l.toArray, d⟩ w := by
  refine Code.wp_mono (fun e a w' h => ?_) (h1 (fun a w' => Q .normal a w') ⟨h2⟩)
  cases e <;> first | exact h | exact h.elim
instance zeroRsn : ZeroT Try.prog 53 [.int .u64 0, .int .u64 0, .int .u64 0, .int .u64 0, .int .u64 0, .int .u64 0, .int .u64 0, .int .u64 0, .slice none 0 0] := ⟨.agg (List.toArray [.int .u64 0, .int .u64 0, .int .u64 0, .int .u64 0, .int .u64 0, .int .u64 0, .int .u64 0, .int .u64 0, .slice none 0 0]), by kernel_rfl, rfl⟩
theorem build_nums2 (a b : Nat) (w : World) : (Instr.buildSlice 73 2 #[(0, num a), (1, num b)]).run Try.prog w = .ok (.slice (some ⟨w.heap.size, 0, none⟩) 2 2) (w.alloc (.cells (nl2 a b).toArray 24)) := by
  unfold num nl nl2
  go_simp
theorem numsAt2 {B0 b : Nat} {w0 w : World} {L : List (Nat × Obj)} {m n : Nat} {f : Nat → Nat} (hm : (b, Obj.cells (nl2 m n).toArray 24) ∈ L) (hR : Rep B0 w0 L w) (h0 : f 0 = m) (h1 : f 1 = n) : NumsAt w (some ⟨b, 0, none⟩) 2 f :=
  ⟨fun _ => ⟨b, 0, rfl, hR.lt hm, fun j hj => by
    have c := fun (k : Nat) (v : Value) (hv : (nl2 m n)[k]? = some v) => hR.cell (off := k) hm hv
    have : j = 0 ∨ j = 1 := by omega
    rcases this with rfl | rfl
    · rw [h0]; exact ⟨c 0 _ rfl, c 1 _ rfl, c 2 _ rfl, c 3 _ rfl⟩
    · rw [h1]; exact ⟨c 4 _ rfl, c 5 _ rfl, c 6 _ rfl, c 7 _ rfl⟩⟩⟩
end Go.Proofs.Ythbcgcncoggagaa
namespace Go.Proofs.Ythbcgcncoggagaa
open Go.RowKit
theorem in_of_pow {p q x : Nat} (h1 : 1 < p) (hx : x < p) (hq : q ≠ 0) (hp : powN x q p = 1) : inG p q x := by
  refine ⟨⟨h1, fun h0 => ?_, hx⟩, hp⟩
  rw [h0, xCd, Nat.zero_pow (by omega), Nat.zero_mod] at hp
  exact absurd hp (by decide)
theorem pow_mod' (a n p : Nat) : (a % p) ^ n % p = a ^ n % p := (Nat.pow_mod a n p).symm
theorem in_exp {p q a : Nat} (hq : q ≠ 0) (ha : inG p q a) (n : Nat) : inG p q (powN a n p) := by
  obtain ⟨⟨h1, _, _⟩, ea⟩ := ha
  refine in_of_pow h1 (pow_lt' h1 a n) hq ?_
  rw [xCd] at ea
  rw [xCd, xCd, pow_mod', ← Nat.pow_mul, Nat.mul_comm, Nat.pow_mul, Nat.pow_mod, ea, Nat.one_pow, Nat.mod_eq_of_lt h1]
theorem pow_red {p q a : Nat} (ha : inG p q a) (n : Nat) : powN a n p = powN a (n % q) p := by
  obtain ⟨⟨h1, _, _⟩, ea⟩ := ha
  rw [xCd] at ea
  rw [xCd, xCd]
  conv => lhs; rw [← Nat.div_add_mod n q]
  rw [Nat.pow_add, Nat.pow_mul, Nat.mul_mod, Nat.pow_mod, ea, Nat.one_pow, Nat.mod_eq_of_lt h1, Nat.one_mul, Nat.mod_mod]
theorem pow_pow (a n k p : Nat) : powN (powN a n p) k p = powN a (n * k) p := by
  rw [xCd, xCd, xCd, pow_mod', ← Nat.pow_mul]
theorem pow_sum (a n k p : Nat) : mulN (powN a n p) (powN a k p) p = powN a (n + k) p := by
  rw [mulN_def, xCd, xCd, xCd, ← Nat.mul_mod, ← Nat.pow_add]
end Go.Proofs.Ythbcgcncoggagaa
namespace Go.Proofs.Ythbcgcncoggagaa
open Go.RowKit
attribute [local irreducible] Calls
noncomputable def zsTwo (a n b m : Nat) (ha : a < B) (hn : n < B) (hb : b < B) (hm : m < B) (j : Nat) : Pair := if j = 0 then ⟨(a, n), ha, hn⟩ else ⟨(b, m), hb, hm⟩
theorem prod2_lit {p q g h a b n m r : Nat} {e : Int} (hp : p < B) (hq : q < B) (h1 : 1 < p) (ha : a < B) (hb : b < B) (hn : n < B) (hm : m < B) (hr : (if mayG p a ∧ mayG p b then mulN (powN a n p) (powN b m p) p else 0) = r) (he : (if mayG p a ∧ mayG p b then (0 : Int) else 1) = e)
    {B0 b1 b2 : Nat} {w0 w : World} {L : List (Nat × Obj)} (m1 : (b1, Obj.cells (nl2 a b).toArray 24) ∈ L) (m2 : (b2, Obj.cells (nl2 n m).toArray 24) ∈ L) (hR : Rep B0 w0 L w) : Calls Try.prog 41 #[grp p q g h, .slice (some ⟨b1, 0, none⟩) 2 2, .slice (some ⟨b2, 0, none⟩) 2 2] w fun e' w' =>
    e' = .returned (.tuple #[num r, .int .i64 e]) ∧ Below w.heap.size w w' := by
  have z0 : (zsTwo a n b m ha hn hb hm 0).1 = (a, n) := rfl
  have z1 : (zsTwo a n b m ha hn hb hm 1).1 = (b, m) := rfl
  refine (product_go (q := q) (g := g) (h := h) hp hq h1 (some ⟨b1, 0, none⟩) (some ⟨b2, 0, none⟩) 2 2 2 (zsTwo a n b m ha hn hb hm) (by decide) w (numsAt2 m1 hR (by rw [z0]) (by rw [z1])) (numsAt2 m2 hR (by rw [z0]) (by rw [z1]))).mono ?_
  rintro e' w' ⟨hc, hbw⟩
  refine ⟨?_, hbw⟩
  have hup : up (zsTwo a n b m ha hn hb hm) 2 = [zsTwo a n b m ha hn hb hm 0, zsTwo a n b m ha hn hb hm 1] := rfl
  have hmay : mayAll p (up (zsTwo a n b m ha hn hb hm) 2) ↔ mayG p a ∧ mayG p b := by
    rw [hup]
    constructor
    · intro h
      exact ⟨h _ (.head _), h _ (.tail _ (.head _))⟩
    · rintro ⟨h, h'⟩ x hx
      rcases List.mem_cons.1 hx with rfl | hx
      · exact h
      · rcases List.mem_cons.1 hx with rfl | hx
        · exact h'
        · cases hx
  have hpr : prodL p (up (zsTwo a n b m ha hn hb hm) 2) = mulN (powN a n p) (powN b m p) p := by
    rw [hup]
    show stepP p (stepP p 1 _) _ = _
    rw [stepP_def, stepP_def, z0, z1]
    congr 1
    rw [mulN_def, Nat.one_mul, Nat.mod_eq_of_lt (pow_lt' h1 a n)]
  rw [hmay] at hc
  rw [hpr] at hc
  rcases hc with ⟨h, rfl⟩ | ⟨h, rfl⟩
  · rw [if_pos h] at hr he
    rw [← hr, ← he]
  · rw [if_neg h] at hr he
    rw [← hr, ← he]
end Go.Proofs.Ythbcgcncoggagaa
namespace Go.Proofs.Ythbcgcncoggagaa
open Go.RowKit
theorem pow_cong {p q a n m : Nat} (ha : inG p q a) (h : n % q = m % q) : powN a n p = powN a m p := by
  rw [pow_red ha n, pow_red ha m, h]
theorem back_pow {p q g s c d : Nat} (hg : inG p q g) (h1 : 1 < q) (hc : c < q) : mulN (powN g ((d + mulN s c q) % q) p) (powN (powN g s p) (subN 0 c q) p) p = powN g d p := by
  rw [pow_pow, pow_sum]
  refine pow_cong hg ?_
  rw [mulN_def, subN_def, Nat.zero_add]
  have e : ((d + s * c % q) % q + s * ((q - c) % q)) % q = (d + s * c + s * (q - c)) % q := by
    rw [Nat.add_mod ((d + s * c % q) % q), Nat.mod_mod, Nat.add_mod d, Nat.mod_mod, ← Nat.add_mod d, Nat.mul_mod s ((q - c) % q), Nat.mod_mod, ← Nat.mul_mod, ← Nat.add_mod]
  rw [e, Nat.add_assoc, ← Nat.mul_add, show c + (q - c) = q by omega, Nat.add_mul_mod_self_right]
end Go.Proofs.Ythbcgcncoggagaa
