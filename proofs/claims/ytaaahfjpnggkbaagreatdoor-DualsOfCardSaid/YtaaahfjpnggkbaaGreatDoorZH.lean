import Derived.Test.YtaaahfjpnggkbaaGreatDoorZG
set_option linter.unusedSimpArgs false
set_option linter.unusedVariables false
set_option maxRecDepth 100000
set_option maxHeartbeats 20000000
namespace Go.Proofs.YtaaahfjpnggkbaaGreatDoor
open Go.RowKit
section
attribute [local irreducible] Calls
theorem inv_key {m a r s x y q left u1 u2 u3 u4 u5 u6 r' s' t z : Int} (f1 : m * u1 + r' = x * a) (f2 : m * u2 + s' = y * a) (f3 : m * u3 + t = q * y) (f4 : m * u4 + z = x + (m - t)) (f5 : m * u5 + r' = r) (f6 : m * u6 + s' = s) (f7 : s * q + left = r) :
  z * a = left + m * (u1 - u5 + a + u3 * a - u4 * a - q * (u2 - u6)) := by
 have g4 : z = x + (m - t) - m * u4 := by omega
 have g3 : t = q * y - m * u3 := by omega
 have g7 : left = r - s * q := by omega
 have g5 : r' = r - m * u5 := by omega
 have g6 : s' = s - m * u6 := by omega
 subst g4 g3 g7 g5 g6
 have k1 : x * a = m * u1 + (r - m * u5) := f1.symm
 have k2 : q * (y * a) = q * (m * u2 + (s - m * u6)) := by rw [f2]
 have e : (x + (m - (q * y - m * u3)) - m * u4) * a = x * a + m * a - q * (y * a) + m * u3 * a - m * u4 * a := by grind
 rw [e, k1, k2]
 grind
theorem inv_step {a m r s x y : Nat} (hm : 0 < m) (h1 : x * a % m = r % m) (h2 : y * a % m = s % m) : subN x (mulN (r / s) y m) m * a % m = r % s % m := by
 rw [xFr, xCe]
 have e1 := Nat.div_add_mod (x * a) m
 have e2 := Nat.div_add_mod (y * a) m
 have e3 := Nat.div_add_mod (r / s * y) m
 have e4 := Nat.div_add_mod (x + (m - r / s * y % m)) m
 have e5 := Nat.div_add_mod r m
 have e6 := Nat.div_add_mod s m
 have e7 := Nat.div_add_mod r s
 have l3 : r / s * y % m < m := Nat.mod_lt _ hm
 rw [h1] at e1
 rw [h2] at e2
 generalize r / s = q at *
 generalize r % s = left at *
 generalize x * a / m = u1 at *
 generalize y * a / m = u2 at *
 generalize q * y / m = u3 at *
 generalize q * y % m = t at *
 generalize (x + (m - t)) / m = u4 at *
 generalize (x + (m - t)) % m = z at *
 generalize r / m = u5 at *
 generalize r % m = r' at *
 generalize s / m = u6 at *
 generalize s % m = s' at *
 have key : (z : Int) * a = left + m * (u1 - u5 + a + u3 * a - u4 * a - q * (u2 - u6)) := by
  have f1 : (m : Int) * u1 + r' = x * a := by exact_mod_cast e1
  have f2 : (m : Int) * u2 + s' = y * a := by exact_mod_cast e2
  have f3 : (m : Int) * u3 + t = q * y := by exact_mod_cast e3
  have f4 : (m : Int) * u4 + z = x + (m - t) := by
   have : ((m * u4 + z : Nat) : Int) = ((x + (m - t) : Nat) : Int) := by rw [e4]
   rw [Int.natCast_add, Int.natCast_add, Int.natCast_mul, Int.natCast_sub (by omega)] at this
   exact this
  have f5 : (m : Int) * u5 + r' = r := by exact_mod_cast e5
  have f6 : (m : Int) * u6 + s' = s := by exact_mod_cast e6
  have f7 : (s : Int) * q + left = r := by exact_mod_cast e7
  exact inv_key f1 f2 f3 f4 f5 f6 f7
 have : ((z * a % m : Nat) : Int) = ((left % m : Nat) : Int) := by
  rw [Int.natCast_emod, Int.natCast_emod, Int.natCast_mul, key, Int.add_mul_emod_self_left]
 exact_mod_cast this
theorem xIf (a m : Nat) (hm : 1 < m) : ∀ s r x y : Nat, Nat.gcd r s = 1 → 1 ≤ s → s < m → r ≤ m → x < m → y < m → x * a % m = r % m → y * a % m = s % m →
  ∃ (N : Nat) (R S X Y : Nat → Nat), R N = r ∧ S N = s ∧ X N = x ∧ Y N = y ∧ S 0 = 1 ∧ Y 0 * a % m = 1 ∧ (∀ j, j ≤ N → R j ≤ m ∧ S j < m ∧ X j < m ∧ Y j < m) ∧
   ∀ j, j < N → 1 < S (j + 1) ∧ R j = S (j + 1) ∧ S j = R (j + 1) % S (j + 1) ∧ X j = Y (j + 1) ∧ Y j = subN (X (j + 1)) (mulN (R (j + 1) / S (j + 1)) (Y (j + 1)) m) m := by
 intro s
 induction s using Nat.strongRecOn with
 | ind s ih =>
  intro r x y hg hs hsm hr hx hy h1 h2
  by_cases e : s = 1
  ·subst e
   refine ⟨0, fun _ => r, fun _ => 1, fun _ => x, fun _ => y, rfl, rfl, rfl, rfl, rfl, ?_, fun _ _ => ⟨hr, hsm, hx, hy⟩, fun j hj => absurd hj (by omega)⟩
   rw [h2, Nat.mod_eq_of_lt hm]
  ·have ll : r % s < s := Nat.mod_lt _ (by omega)
   have lz : subN x (mulN (r / s) y m) m < m := by rw [xFr]; exact Nat.mod_lt _ (by omega)
   have hg2 : Nat.gcd s (r % s) = 1 := by rw [← hg, Nat.gcd_comm r s, Nat.gcd_rec s r, Nat.gcd_comm]
   have l1 : 1 ≤ r % s := by
    rcases Nat.eq_zero_or_pos (r % s) with h | h
    ·rw [h, Nat.gcd_zero_right] at hg2; omega
    ·exact h
   obtain ⟨N, R, S, X, Y, k1, k2, k3, k4, k5, k6, k7, k8⟩ := ih (r % s) ll s y (subN x (mulN (r / s) y m) m) hg2 l1 (by omega) (by omega) hy lz h2 (inv_step (by omega) h1 h2)
   have ne : ∀ j, j ≤ N → ¬ j = N + 1 := fun j hj => by omega
   refine ⟨N + 1, fun j => if j = N + 1 then r else R j, fun j => if j = N + 1 then s else S j, fun j => if j = N + 1 then x else X j, fun j => if j = N + 1 then y else Y j, if_pos rfl, if_pos rfl, if_pos rfl, if_pos rfl, ?_, ?_, ?_, ?_⟩
   ·show (if 0 = N + 1 then s else S 0) = 1
    rw [if_neg (by omega)]; exact k5
   ·show (if 0 = N + 1 then y else Y 0) * a % m = 1
    rw [if_neg (by omega)]; exact k6
   ·intro j hj
    show (if j = N + 1 then r else R j) ≤ m ∧ (if j = N + 1 then s else S j) < m ∧ (if j = N + 1 then x else X j) < m ∧ (if j = N + 1 then y else Y j) < m
    by_cases ej : j = N + 1
    ·rw [if_pos ej, if_pos ej, if_pos ej, if_pos ej]; exact ⟨hr, hsm, hx, hy⟩
    ·rw [if_neg ej, if_neg ej, if_neg ej, if_neg ej]; exact k7 j (by omega)
   ·intro j hj
    show 1 < (if j + 1 = N + 1 then s else S (j + 1)) ∧ (if j = N + 1 then r else R j) = (if j + 1 = N + 1 then s else S (j + 1)) ∧ (if j = N + 1 then s else S j) = (if j + 1 = N + 1 then r else R (j + 1)) % (if j + 1 = N + 1 then s else S (j + 1)) ∧ (if j = N + 1 then x else X j) = (if j + 1 = N + 1 then y else Y (j + 1)) ∧
     (if j = N + 1 then y else Y j) = subN (if j + 1 = N + 1 then x else X (j + 1)) (mulN ((if j + 1 = N + 1 then r else R (j + 1)) / (if j + 1 = N + 1 then s else S (j + 1))) (if j + 1 = N + 1 then y else Y (j + 1)) m) m
    rw [if_neg (ne j (by omega)), if_neg (ne j (by omega)), if_neg (ne j (by omega)), if_neg (ne j (by omega))]
    by_cases ej : j = N
    ·subst ej
     rw [if_pos rfl, if_pos rfl, if_pos rfl, if_pos rfl, k1, k2, k3, k4]
     exact ⟨by omega, rfl, rfl, rfl, rfl⟩
    ·rw [if_neg (by omega), if_neg (by omega), if_neg (by omega), if_neg (by omega)]
     exact k8 j (by omega)
noncomputable def invN (a m : Nat) : Nat := by
 classical exact if h : ∃ y, y < m ∧ y * a % m = 1 then h.choose else 0
theorem inv_one {a m y y' : Nat} (hy : y < m) (hy' : y' < m) (h : y * a % m = 1) (h' : y' * a % m = 1) : y = y' := by
 have e1 : y * (y' * a) % m = y % m := by rw [Nat.mul_mod, h', Nat.mul_one, Nat.mod_mod]
 have e2 : y' * (y * a) % m = y' % m := by rw [Nat.mul_mod, h, Nat.mul_one, Nat.mod_mod]
 rw [Nat.mul_left_comm, e2, Nat.mod_eq_of_lt hy, Nat.mod_eq_of_lt hy'] at e1
 exact e1.symm
theorem invN_is {a m y : Nat} (hy : y < m) (h : y * a % m = 1) : invN a m = y := by
 unfold invN
 rw [dif_pos ⟨y, hy, h⟩]
 exact inv_one (Exists.choose_spec (p := fun y => y < m ∧ y * a % m = 1) ⟨y, hy, h⟩).1 hy (Exists.choose_spec (p := fun y => y < m ∧ y * a % m = 1) ⟨y, hy, h⟩).2 h
end
section
section
variable {P : Program} {ops : Array Oper} {B0 : Nat} {w0 : World} {Kq : List (List (Nat × Obj))} {Q : Exit → Act → World → Prop}
def xIt (P : Program) (ops : Array Oper) (B0 : Nat) (w0 : World) (Kq : List (List (Nat × Obj))) (Q : Exit → Act → World → Prop) : Nat → Array Bool → Act → List (Nat × Obj) → Prop
  | 0, listed, a, L => Region.ready .any ops listed = [] ∧ ∀ w, Rep B0 w0 L w → Q .normal a w
  | f + 1, listed, a, L => (Region.ready .any ops listed = [] → ∀ w, Rep B0 w0 L w → Q .normal a w) ∧ ∀ i ∈ Region.ready .any ops listed, ∃ o, ops[i]? = some o ∧
      ((∃ v, xBg P ops o v a (Rep B0 w0 L) (Rep B0 w0 L) ∧ xIt P ops B0 w0 Kq Q f (listed.setIfInBounds i true) (a.put o.dst v) L) ∨
       (∃ v L', xBg P ops o v a (Rep B0 w0 L) (Rep B0 w0 L') ∧ (∀ k p, xIs ops i k = false → p ∈ Kq.getD k [] → p ∈ L') ∧ xIt P ops B0 w0 Kq Q f (listed.setIfInBounds i true) (a.put o.dst v) L'))
theorem xIj : ∀ (f : Nat) (listed : Array Bool) (a : Act) (L : List (Nat × Obj)) (w : World), Rep B0 w0 L w → xIt P ops B0 w0 Kq Q f listed a L → wpAny P .any ops Q f listed a w
  | 0, _, _, _, w, hw, h => ⟨h.1, h.2 w hw⟩
  | f + 1, listed, a, L, w, hw, h => ⟨fun h0 => h.1 h0 w hw, fun i hi => by
      obtain ⟨o, ho, ⟨v, hy, hn⟩ | ⟨v, L', hy, hk, hn⟩⟩ := h.2 i hi
      · exact hy.wpOp ho hw fun w' hw' => xIj f _ _ _ w' hw' hn
      · exact hy.wpOp ho hw fun w' hw' => xIj f _ _ _ w' hw' hn⟩
theorem headJ_first {i : Nat} {oi : Oper} {v : Value} (hi : ops[i]? = some oi) (hs : ∀ (j : Nat) (o : Oper) cs b, ops[j]? = some o → o.op ≠ .select cs b) : ∀ (fuel : Nat) (listed : Array Bool) (a : Act) (L : List (Nat × Obj)),
   (∀ j oj, ops[j]? = some oj → j ≠ i → listed.getD j true = false → (∀ e ∈ oj.after, Region.binds .any e = true → e.on ≠ i) → oi.apart ops oj = true) →
   i ∈ Region.ready .any ops listed → (∀ L', (∀ p, p ∈ Kq.getD i [] → p ∈ L') → xBg P ops oi v a (Rep B0 w0 L') (Rep B0 w0 L')) → (∀ p, p ∈ Kq.getD i [] → p ∈ L) →
   xIt P ops B0 w0 Kq Q fuel (listed.setIfInBounds i true) (a.put oi.dst v) L → xIt P ops B0 w0 Kq Q (fuel + 1) listed a L := by
 intro fuel
 induction fuel with
 | zero =>
  intro listed a L _ hr hy hL H
  refine ⟨fun h0 => (by rw [h0] at hr; cases hr), fun j hj => ?_⟩
  by_cases hji : j = i
  ·subst hji
   exact ⟨oi, hi, .inl ⟨v, hy L hL, H⟩⟩
  ·have := ready_mono hj hji
   rw [H.1] at this
   cases this
 | succ fuel ih =>
  intro listed a L hfree hr hy hL H
  refine ⟨fun h0 => (by rw [h0] at hr; cases hr), fun j hj => ?_⟩
  by_cases hji : j = i
  ·subst hji
   exact ⟨oi, hi, .inl ⟨v, hy L hL, H⟩⟩
  ·obtain ⟨oj, hoj, hH⟩ := H.2 j (ready_mono hj hji)
   obtain ⟨hjun, oj', hoj', hall⟩ := mem_ready.1 hj
   obtain rfl : oj = oj' := Option.some.inj (hoj.symm.trans hoj')
   have hnot : ∀ e ∈ oj.after, Region.binds .any e = true → e.on ≠ i := fun e he hb heq => by
    have h1 := hall e he hb
    have h0 := (mem_ready.1 hr).1
    rw [heq] at h1
    rcases Nat.lt_or_ge i listed.size with h' | h'
    ·simp [h'] at h0 h1; rw [h0] at h1; cases h1
    ·simp [Array.getElem?_eq_none h'] at h1
   have hwait : xIs ops j i = false := by
    cases hw : xIs ops j i with
    | false => rfl
    | true =>
     obtain ⟨o2, ho2, e, he, hb, hon⟩ := xGk hw
     obtain rfl : oj = o2 := Option.some.inj (hoj.symm.trans ho2)
     exact absurd hon (hnot e he hb)
   obtain ⟨p1, p2, p3⟩ := Oper.apart_spec (hfree j oj hoj hji hjun hnot)
   have next : ∀ u L', (∀ p, p ∈ Kq.getD i [] → p ∈ L') → xIt P ops B0 w0 Kq Q fuel ((listed.setIfInBounds i true).setIfInBounds j true) ((a.put oi.dst v).put oj.dst u) L' → xIt P ops B0 w0 Kq Q (fuel + 1) (listed.setIfInBounds j true) (a.put oj.dst u) L' := fun u L' hL' Hj => by
    refine ih (listed.setIfInBounds j true) (a.put oj.dst u) L' (fun k ok hk hki hun hno => ?_) (ready_mono hr (Ne.symm hji)) (fun L'' hL'' => (xBg.of_put (fun cs b => hs i oi cs b hi) p3).2 (hy L'' hL'')) hL' ?_
    ·refine hfree k ok hk hki ?_ hno
     by_cases hjk : j = k
     ·subst hjk; exact hjun
     ·rw [getD_set_ne true hjk] at hun; exact hun
    ·rw [Array.setIfInBounds_comm _ _ hji, ← Act.put_comm a v u p2]
     exact Hj
   rcases hH with ⟨u, hyj, hn⟩ | ⟨u, L', hyj, hk, hn⟩
   ·exact ⟨oj, hoj, .inl ⟨u, (xBg.of_put (fun cs b => hs j oj cs b hoj) p1).1 hyj, next _ _ hL hn⟩⟩
   ·exact ⟨oj, hoj, .inr ⟨u, L', (xBg.of_put (fun cs b => hs j oj cs b hoj) p1).1 hyj, hk, next _ _ (fun p hp => hk i p hwait hp) hn⟩⟩
def headV (P : Program) (ops : Array Oper) (B0 : Nat) (w0 : World) (K : Act → Prop) : List (List (Nat × Obj)) → List Oper → Act → Prop
 | kp :: ks, o :: l, a => ∃ v, (∀ L', (∀ p, p ∈ kp → p ∈ L') → xBg P ops o v a (Rep B0 w0 L') (Rep B0 w0 L')) ∧ headV P ops B0 w0 K ks l (a.put o.dst v)
 | [], [], a => K a
 | _, _, _ => False
def tailV (P : Program) (ops : Array Oper) (B0 : Nat) (w0 : World) (Kq : List (List (Nat × Obj))) (Q : Exit → Act → World → Prop) : Nat → List Oper → List (Nat × Obj) → Act → Prop
 | _, [], L, a => ∀ w, Rep B0 w0 L w → Q .normal a w
 | t, o :: r, L, a => ∃ v L', xBg P ops o v a (Rep B0 w0 L) (Rep B0 w0 L') ∧ (∀ k p, xIs ops t k = false → p ∈ Kq.getD k [] → p ∈ L') ∧ tailV P ops B0 w0 Kq Q (t + 1) r L' (a.put o.dst v)
theorem headJ_all (hsel : Region.noSelect ops = true) {L : List (Nat × Obj)} {K : Act → Prop} {n : Nat} (ks : List (List (Nat × Obj))) : ∀ (l : List Oper) (k : Nat) (listed : Array Bool) (a : Act), (∀ j, j < ks.length → Kq.getD (k + j) [] = ks.getD j []) → (∀ kp ∈ ks, ∀ p ∈ kp, p ∈ L) → (∀ j, j < l.length → ops[k + j]? = l[j]?) → ordB ops (List.range' k ks.length) listed = true → headV P ops B0 w0 K ks l a →
  (∀ a', K a' → xIt P ops B0 w0 Kq Q n (xCf (List.range' k ks.length) listed) a' L) → xIt P ops B0 w0 Kq Q (ks.length + n) listed a L := by
 induction ks with
 | nil =>
  intro l k listed a _ _ _ _ h hn
  cases l with
  | nil => rw [List.length_nil, Nat.zero_add]; exact hn a h
  | cons o l => exact h.elim
 | cons kp ks ih =>
  intro l k listed a hk hL hl hB h hn
  cases l with
  | nil => exact h.elim
  | cons o l =>
   obtain ⟨v, hy, hr⟩ := h
   have ho : ops[k]? = some o := by simpa using hl 0 (by simp)
   have hk0 : Kq.getD k [] = kp := by simpa using hk 0 (by simp)
   simp only [List.length_cons, List.range'_succ, ordB, Bool.and_eq_true] at hB
   obtain ⟨⟨h1, h2⟩, h3⟩ := hB
   rw [List.length_cons, show ks.length + 1 + n = (ks.length + n) + 1 by omega]
   refine headJ_first ho (Region.noSelect_spec hsel) (ks.length + n) listed a L (Region.free_spec ho h2) (by simpa using h1) (fun L' hL' => hy L' (by rw [hk0] at hL'; exact hL')) (by rw [hk0]; exact hL kp (.head _)) ?_
   refine ih l (k + 1) _ _ (fun j hj => ?_) (fun q hq => hL q (.tail _ hq)) (fun j hj => ?_) (by simpa using h3) hr (fun a' ha' => ?_)
   ·have := hk (j + 1) (by simp; omega)
    simpa [Nat.add_assoc, Nat.add_comm 1 j] using this
   ·have := hl (j + 1) (by simp; omega)
    simpa [Nat.add_assoc, Nat.add_comm 1 j] using this
   ·have := hn a' ha'
    rw [List.length_cons, List.range'_succ] at this
    exact this
theorem tailJ : ∀ (r : List Oper) (t : Nat) (listed : Array Bool) (a : Act) (L : List (Nat × Obj)), (∀ j, j < r.length → ops[t + j]? = r[j]?) → seqB ops (List.range' t r.length) listed = true → tailV P ops B0 w0 Kq Q t r L a → xIt P ops B0 w0 Kq Q r.length listed a L
  | [], t, listed, a, L, _, hB, h => ⟨by simpa [seqB] using hB, h⟩
  | o :: r, t, listed, a, L, hl, hB, h => by
    have ho : ops[t]? = some o := by simpa using hl 0 (by simp)
    obtain ⟨v, L', hy, hk, hr⟩ := h
    simp only [List.length_cons, List.range'_succ, seqB, Bool.and_eq_true, decide_eq_true_eq] at hB
    rw [List.length_cons]
    refine ⟨fun h0 => (by rw [h0] at hB; cases hB.1), fun i hi => ?_⟩
    rw [hB.1] at hi
    obtain rfl : i = t := by simpa using hi
    exact ⟨o, ho, .inr ⟨v, L', hy, hk, tailJ r (i + 1) _ _ L' (fun j hj => by have := hl (j + 1) (by simp; omega); simpa [Nat.add_assoc, Nat.add_comm 1 j] using this) (by simpa using hB.2) hr⟩⟩
theorem xIw {id : Nat} {w : World} {l1 l2 : List Oper} {L : List (Nat × Obj)} {a : Act} (hR : Rep B0 w0 L w) (hm : P.follows .mixedOrders = true) (hlen : Kq.length = l1.length)
  (hB : (Region.noSelect (l1 ++ l2).toArray && ordB (l1 ++ l2).toArray (List.range' 0 l1.length) (Array.replicate (l1 ++ l2).length false) && seqB (l1 ++ l2).toArray (List.range' l1.length l2.length) (xCf (List.range' 0 l1.length) (Array.replicate (l1 ++ l2).length false))) = true)
  (hL : ∀ kp ∈ Kq, ∀ p ∈ kp, p ∈ L)
  (h : headV P (l1 ++ l2).toArray B0 w0 (fun a' => tailV P (l1 ++ l2).toArray B0 w0 Kq Q l1.length l2 L a') Kq l1 a) : (Code.region id (l1 ++ l2).toArray true).wp P Q a w := by
 simp only [Bool.and_eq_true] at hB
 obtain ⟨⟨h1, h2⟩, h3⟩ := hB
 refine wp_region_any hm ?_
 have key := headJ_all (Q := Q) (Kq := Kq) (n := l2.length) h1 Kq l1 0 (Array.replicate (l1 ++ l2).length false) a (fun j hj => by simp) hL (fun j hj => by simp [List.getElem?_append_left hj]) (by rw [hlen]; exact h2) h (fun a' ha' => by
  rw [hlen]
  exact tailJ l2 l1.length _ a' L (fun j hj => by rw [List.getElem?_toArray, List.getElem?_append_right (by omega), Nat.add_sub_cancel_left]) h3 ha')
 have := xIj _ _ _ _ _ hR.drew key
 simpa [hlen] using this
theorem xIq {id : Nat} {w : World} {l : List Oper} {L : List (Nat × Obj)} {a : Act} (hR : Rep B0 w0 L w) (n : Nat) (Kq : List (List (Nat × Obj))) (hm : P.follows .mixedOrders = true) (hlen : Kq.length = (l.take n).length)
  (hB : (Region.noSelect l.toArray && ordB l.toArray (List.range' 0 (l.take n).length) (Array.replicate l.length false) && seqB l.toArray (List.range' (l.take n).length (l.drop n).length) (xCf (List.range' 0 (l.take n).length) (Array.replicate l.length false))) = true)
  (hL : ∀ kp ∈ Kq, ∀ p ∈ kp, p ∈ L)
  (h : headV P l.toArray B0 w0 (fun a' => tailV P l.toArray B0 w0 Kq Q (l.take n).length (l.drop n) L a') Kq (l.take n) a) : (Code.region id l.toArray true).wp P Q a w := by
 have e : l = l.take n ++ l.drop n := (List.take_append_drop n l).symm
 have := xIw (P := P) (Q := Q) (id := id) (l1 := l.take n) (l2 := l.drop n) (a := a) (Kq := Kq) hR hm hlen (by rw [← e]; exact hB) hL (by rw [← e]; exact h)
 rw [← e] at this
 exact this
theorem hv_loadAll {r : List Oper} {o : Oper} {ks : List (List (Nat × Obj))} {kp : List (Nat × Obj)} {a : Act} {K : Act → Prop} (hw : Region.wanted o (yielded ops a.tmps) = true) {ty : TypeId} {x : Operand} (hop : o.op = .load ty x) {n : Nat} {b : Nat} (hx : a.eval x = .pointer (some ⟨b, 0, none⟩)) (hT : RowT P ty n) {l : List Value} {t : TypeId}
  (hm : (b, Obj.cells l.toArray t) ∈ kp) (hn : l.length = n) {a' : Act} (ha : a.put o.dst (.agg l.toArray) = a') (h : headV P ops B0 w0 K ks r a') : headV P ops B0 w0 K (kp :: ks) (o :: r) a :=
 ⟨.agg l.toArray, fun L' hL' => .inl ⟨hw, fun w hR => by
  unfold execOp
  simp only [hop, hx, Instr.loadAt, Instr.sureAddr, Sem.run_bind, Sem.run_pure, Result.andThen_ok, Rep.loadAll (P := P) (ty := ty) hR (hL' _ hm) hn]
  exact ⟨rfl, hR⟩⟩, by rw [ha]; exact h⟩
theorem hv_nil {a : Act} {K : Act → Prop} (h : K a) : headV P ops B0 w0 K [] [] a := h
theorem tv_storeAll {r : List Oper} {o : Oper} {t0 : Nat} {L L' : List (Nat × Obj)} {a : Act} (hw : Region.wanted o (yielded ops a.tmps) = true) {ty : TypeId} {x y : Operand} (hop : o.op = .store ty x y) {n : Nat} {b : Nat} (hx : a.eval x = .pointer (some ⟨b, 0, none⟩)) (hT : RowT P ty n) {l vs : List Value} {t : TypeId}
  (hy : a.eval y = .agg vs.toArray) (hs : xBq L b (.cells l.toArray t) (.cells vs.toArray t) L') (h1 : vs.all (·.oneCell') = true) (hvn : vs.length = n) (hn : l.length = n)
  (hk : ∀ k p, xIs ops t0 k = false → p ∈ Kq.getD k [] → p ∈ L') {a' : Act} (ha : a.put o.dst undef = a') (h : tailV P ops B0 w0 Kq Q (t0 + 1) r L' a') : tailV P ops B0 w0 Kq Q t0 (o :: r) L a :=
 ⟨undef, L', .inl ⟨hw, fun w hR => by
  obtain ⟨w', e, hR'⟩ := hR.storeRow (P := P) (ty := ty) h1 hvn hs (show 0 + n ≤ l.length by omega) (show l.take 0 ++ vs ++ l.drop (0 + n) = vs by simp [← hn])
  unfold execOp
  simp only [hop, hx, hy, Instr.storeAt, Instr.sureAddr, Sem.run_bind, Sem.run_pure, Result.andThen_ok, e]
  exact ⟨rfl, hR'⟩⟩, hk, by rw [ha]; exact h⟩
theorem tv_nil {t0 : Nat} {L : List (Nat × Obj)} {a : Act} (h : ∀ w, Rep B0 w0 L w → Q .normal a w) : tailV P ops B0 w0 Kq Q t0 [] L a := h
end
end
end Go.Proofs.YtaaahfjpnggkbaaGreatDoor
