import Derived.Test.YtaaahfjpnggkbaaGreatDoorHG
set_option linter.unusedSimpArgs false
set_option linter.unusedVariables false
set_option maxRecDepth 100000
set_option maxHeartbeats 20000000
namespace Go.Proofs.YtaaahfjpnggkbaaGreatDoor
open Go.RowKit
section
attribute [local irreducible] Calls
theorem inv_key {m a r s x y q left u1 u2 u3 u4 u5 u6 r' s' t z : Int} (f1 : m * u1 + r' = x * a) (f2 : m * u2 + s' = y * a) (f3 : m * u3 + t = q * y) (f4 : m * u4 + z = x + (m - t)) (f5 : m * u5 + r' = r) (f6 : m * u6 + s' = s) (f7 : s * q + left = r) :
  z * a = left + m * (u1 - u5 + a + u3 * a - u4 * a - q * (u2 - u6)) := by
 have g4 : z = x + (m - t) - m * u4 := by omega
 have g3 : t = q * y - m * u3 := by omega
 have g7 : left = r - s * q := by omega
 have g5 : r' = r - m * u5 := by omega
 have g6 : s' = s - m * u6 := by omega
 subst g4 g3 g7 g5 g6
 have k1 : x * a = m * u1 + (r - m * u5) := f1.symm
 have k2 : q * (y * a) = q * (m * u2 + (s - m * u6)) := by rw [f2]
 have e : (x + (m - (q * y - m * u3)) - m * u4) * a = x * a + m * a - q * (y * a) + m * u3 * a - m * u4 * a := by grind
 rw [e, k1, k2]
 grind
theorem inv_step {a m r s x y : Nat} (hm : 0 < m) (h1 : x * a % m = r % m) (h2 : y * a % m = s % m) : subN x (mulN (r / s) y m) m * a % m = r % s % m := by
 rw [xEi, xCm]
 have e1 := Nat.div_add_mod (x * a) m
 have e2 := Nat.div_add_mod (y * a) m
 have e3 := Nat.div_add_mod (r / s * y) m
 have e4 := Nat.div_add_mod (x + (m - r / s * y % m)) m
 have e5 := Nat.div_add_mod r m
 have e6 := Nat.div_add_mod s m
 have e7 := Nat.div_add_mod r s
 have l3 : r / s * y % m < m := Nat.mod_lt _ hm
 rw [h1] at e1
 rw [h2] at e2
 generalize r / s = q at *
 generalize r % s = left at *
 generalize x * a / m = u1 at *
 generalize y * a / m = u2 at *
 generalize q * y / m = u3 at *
 generalize q * y % m = t at *
 generalize (x + (m - t)) / m = u4 at *
 generalize (x + (m - t)) % m = z at *
 generalize r / m = u5 at *
 generalize r % m = r' at *
 generalize s / m = u6 at *
 generalize s % m = s' at *
 have key : (z : Int) * a = left + m * (u1 - u5 + a + u3 * a - u4 * a - q * (u2 - u6)) := by
  have f1 : (m : Int) * u1 + r' = x * a := by exact_mod_cast e1
  have f2 : (m : Int) * u2 + s' = y * a := by exact_mod_cast e2
  have f3 : (m : Int) * u3 + t = q * y := by exact_mod_cast e3
  have f4 : (m : Int) * u4 + z = x + (m - t) := by
   have : ((m * u4 + z : Nat) : Int) = ((x + (m - t) : Nat) : Int) := by rw [e4]
   rw [Int.natCast_add, Int.natCast_add, Int.natCast_mul, Int.natCast_sub (by omega)] at this
   exact this
  have f5 : (m : Int) * u5 + r' = r := by exact_mod_cast e5
  have f6 : (m : Int) * u6 + s' = s := by exact_mod_cast e6
  have f7 : (s : Int) * q + left = r := by exact_mod_cast e7
  exact inv_key f1 f2 f3 f4 f5 f6 f7
 have : ((z * a % m : Nat) : Int) = ((left % m : Nat) : Int) := by
  rw [Int.natCast_emod, Int.natCast_emod, Int.natCast_mul, key, Int.add_mul_emod_self_left]
 exact_mod_cast this
theorem xIu (a m : Nat) (hm : 1 < m) : ∀ s r x y : Nat, Nat.gcd r s = 1 → 1 ≤ s → s < m → r ≤ m → x < m → y < m → x * a % m = r % m → y * a % m = s % m →
  ∃ (N : Nat) (R S X Y : Nat → Nat), R N = r ∧ S N = s ∧ X N = x ∧ Y N = y ∧ S 0 = 1 ∧ Y 0 * a % m = 1 ∧ (∀ j, j ≤ N → R j ≤ m ∧ S j < m ∧ X j < m ∧ Y j < m) ∧
   ∀ j, j < N → 1 < S (j + 1) ∧ R j = S (j + 1) ∧ S j = R (j + 1) % S (j + 1) ∧ X j = Y (j + 1) ∧ Y j = subN (X (j + 1)) (mulN (R (j + 1) / S (j + 1)) (Y (j + 1)) m) m := by
 intro s
 induction s using Nat.strongRecOn with
 | ind s ih =>
  intro r x y hg hs hsm hr hx hy h1 h2
  by_cases e : s = 1
  ·subst e
   refine ⟨0, fun _ => r, fun _ => 1, fun _ => x, fun _ => y, rfl, rfl, rfl, rfl, rfl, ?_, fun _ _ => ⟨hr, hsm, hx, hy⟩, fun j hj => absurd hj (by omega)⟩
   rw [h2, Nat.mod_eq_of_lt hm]
  ·have ll : r % s < s := Nat.mod_lt _ (by omega)
   have lz : subN x (mulN (r / s) y m) m < m := by rw [xEi]; exact Nat.mod_lt _ (by omega)
   have hg2 : Nat.gcd s (r % s) = 1 := by rw [← hg, Nat.gcd_comm r s, Nat.gcd_rec s r, Nat.gcd_comm]
   have l1 : 1 ≤ r % s := by
    rcases Nat.eq_zero_or_pos (r % s) with h | h
    ·rw [h, Nat.gcd_zero_right] at hg2; omega
    ·exact h
   obtain ⟨N, R, S, X, Y, k1, k2, k3, k4, k5, k6, k7, k8⟩ := ih (r % s) ll s y (subN x (mulN (r / s) y m) m) hg2 l1 (by omega) (by omega) hy lz h2 (inv_step (by omega) h1 h2)
   have ne : ∀ j, j ≤ N → ¬ j = N + 1 := fun j hj => by omega
   refine ⟨N + 1, fun j => if j = N + 1 then r else R j, fun j => if j = N + 1 then s else S j, fun j => if j = N + 1 then x else X j, fun j => if j = N + 1 then y else Y j, if_pos rfl, if_pos rfl, if_pos rfl, if_pos rfl, ?_, ?_, ?_, ?_⟩
   ·show (if 0 = N + 1 then s else S 0) = 1
    rw [if_neg (by omega)]; exact k5
   ·show (if 0 = N + 1 then y else Y 0) * a % m = 1
    rw [if_neg (by omega)]; exact k6
   ·intro j hj
    show (if j = N + 1 then r else R j) ≤ m ∧ (if j = N + 1 then s else S j) < m ∧ (if j = N + 1 then x else X j) < m ∧ (if j = N + 1 then y else Y j) < m
    by_cases ej : j = N + 1
    ·rw [if_pos ej, if_pos ej, if_pos ej, if_pos ej]; exact ⟨hr, hsm, hx, hy⟩
    ·rw [if_neg ej, if_neg ej, if_neg ej, if_neg ej]; exact k7 j (by omega)
   ·intro j hj
    show 1 < (if j + 1 = N + 1 then s else S (j + 1)) ∧ (if j = N + 1 then r else R j) = (if j + 1 = N + 1 then s else S (j + 1)) ∧ (if j = N + 1 then s else S j) = (if j + 1 = N + 1 then r else R (j + 1)) % (if j + 1 = N + 1 then s else S (j + 1)) ∧ (if j = N + 1 then x else X j) = (if j + 1 = N + 1 then y else Y (j + 1)) ∧
     (if j = N + 1 then y else Y j) = subN (if j + 1 = N + 1 then x else X (j + 1)) (mulN ((if j + 1 = N + 1 then r else R (j + 1)) / (if j + 1 = N + 1 then s else S (j + 1))) (if j + 1 = N + 1 then y else Y (j + 1)) m) m
    rw [if_neg (ne j (by omega)), if_neg (ne j (by omega)), if_neg (ne j (by omega)), if_neg (ne j (by omega))]
    by_cases ej : j = N
    ·subst ej
     rw [if_pos rfl, if_pos rfl, if_pos rfl, if_pos rfl, k1, k2, k3, k4]
     exact ⟨by omega, rfl, rfl, rfl, rfl⟩
    ·rw [if_neg (by omega), if_neg (by omega), if_neg (by omega), if_neg (by omega)]
     exact k8 j (by omega)
noncomputable def invN (a m : Nat) : Nat := by
 classical exact if h : ∃ y, y < m ∧ y * a % m = 1 then h.choose else 0
theorem inv_one {a m y y' : Nat} (hy : y < m) (hy' : y' < m) (h : y * a % m = 1) (h' : y' * a % m = 1) : y = y' := by
 have e1 : y * (y' * a) % m = y % m := by rw [Nat.mul_mod, h', Nat.mul_one, Nat.mod_mod]
 have e2 : y' * (y * a) % m = y' % m := by rw [Nat.mul_mod, h, Nat.mul_one, Nat.mod_mod]
 rw [Nat.mul_left_comm, e2, Nat.mod_eq_of_lt hy, Nat.mod_eq_of_lt hy'] at e1
 exact e1.symm
theorem invN_is {a m y : Nat} (hy : y < m) (h : y * a % m = 1) : invN a m = y := by
 unfold invN
 rw [dif_pos ⟨y, hy, h⟩]
 exact inv_one (Exists.choose_spec (p := fun y => y < m ∧ y * a % m = 1) ⟨y, hy, h⟩).1 hy (Exists.choose_spec (p := fun y => y < m ∧ y * a % m = 1) ⟨y, hy, h⟩).2 h
end
section
section
variable {P : Program} {ops : Array Oper} {B0 : Nat} {w0 : World} {Kq : List (List (Nat × Obj))} {Q : Exit → Act → World → Prop}
def xJg (P : Program) (ops : Array Oper) (B0 : Nat) (w0 : World) (Kq : List (List (Nat × Obj))) (Q : Exit → Act → World → Prop) : Nat → Array Bool → Act → List (Nat × Obj) → Prop
  | 0, listed, a, L => Region.ready .any ops listed = [] ∧ ∀ w, Rep B0 w0 L w → Q .normal a w
  | f + 1, listed, a, L => (Region.ready .any ops listed = [] → ∀ w, Rep B0 w0 L w → Q .normal a w) ∧ ∀ i ∈ Region.ready .any ops listed, ∃ o, ops[i]? = some o ∧
      ((∃ v, xBa P ops o v a (Rep B0 w0 L) (Rep B0 w0 L) ∧ xJg P ops B0 w0 Kq Q f (listed.setIfInBounds i true) (a.put o.dst v) L) ∨
       (∃ v L', xBa P ops o v a (Rep B0 w0 L) (Rep B0 w0 L') ∧ (∀ k p, xJe ops i k = false → p ∈ Kq.getD k [] → p ∈ L') ∧ xJg P ops B0 w0 Kq Q f (listed.setIfInBounds i true) (a.put o.dst v) L'))
theorem xIy : ∀ (f : Nat) (listed : Array Bool) (a : Act) (L : List (Nat × Obj)) (w : World), Rep B0 w0 L w → xJg P ops B0 w0 Kq Q f listed a L → wpAny P .any ops Q f listed a w
  | 0, _, _, _, w, hw, h => ⟨h.1, h.2 w hw⟩
  | f + 1, listed, a, L, w, hw, h => ⟨fun h0 => h.1 h0 w hw, fun i hi => by
      obtain ⟨o, ho, ⟨v, hy, hn⟩ | ⟨v, L', hy, hk, hn⟩⟩ := h.2 i hi
      · exact hy.wpOp ho hw fun w' hw' => xIy f _ _ _ w' hw' hn
      · exact hy.wpOp ho hw fun w' hw' => xIy f _ _ _ w' hw' hn⟩
theorem headJ_first {i : Nat} {oi : Oper} {v : Value} (hi : ops[i]? = some oi) (hs : ∀ (j : Nat) (o : Oper) cs b, ops[j]? = some o → o.op ≠ .select cs b) : ∀ (fuel : Nat) (listed : Array Bool) (a : Act) (L : List (Nat × Obj)),
   (∀ j oj, ops[j]? = some oj → j ≠ i → listed.getD j true = false → (∀ e ∈ oj.after, Region.binds .any e = true → e.on ≠ i) → oi.apart ops oj = true) →
   i ∈ Region.ready .any ops listed → (∀ L', (∀ p, p ∈ Kq.getD i [] → p ∈ L') → xBa P ops oi v a (Rep B0 w0 L') (Rep B0 w0 L')) → (∀ p, p ∈ Kq.getD i [] → p ∈ L) →
   xJg P ops B0 w0 Kq Q fuel (listed.setIfInBounds i true) (a.put oi.dst v) L → xJg P ops B0 w0 Kq Q (fuel + 1) listed a L := by
 intro fuel
 induction fuel with
 | zero =>
  intro listed a L _ hr hy hL H
  refine ⟨fun h0 => (by rw [h0] at hr; cases hr), fun j hj => ?_⟩
  by_cases hji : j = i
  ·subst hji
   exact ⟨oi, hi, .inl ⟨v, hy L hL, H⟩⟩
  ·have := ready_mono hj hji
   rw [H.1] at this
   cases this
 | succ fuel ih =>
  intro listed a L hfree hr hy hL H
  refine ⟨fun h0 => (by rw [h0] at hr; cases hr), fun j hj => ?_⟩
  by_cases hji : j = i
  ·subst hji
   exact ⟨oi, hi, .inl ⟨v, hy L hL, H⟩⟩
  ·obtain ⟨oj, hoj, hH⟩ := H.2 j (ready_mono hj hji)
   obtain ⟨hjun, oj', hoj', hall⟩ := mem_ready.1 hj
   obtain rfl : oj = oj' := Option.some.inj (hoj.symm.trans hoj')
   have hnot : ∀ e ∈ oj.after, Region.binds .any e = true → e.on ≠ i := fun e he hb heq => by
    have h1 := hall e he hb
    have h0 := (mem_ready.1 hr).1
    rw [heq] at h1
    rcases Nat.lt_or_ge i listed.size with h' | h'
    ·simp [h'] at h0 h1; rw [h0] at h1; cases h1
    ·simp [Array.getElem?_eq_none h'] at h1
   have hwait : xJe ops j i = false := by
    cases hw : xJe ops j i with
    | false => rfl
    | true =>
     obtain ⟨o2, ho2, e, he, hb, hon⟩ := xHd hw
     obtain rfl : oj = o2 := Option.some.inj (hoj.symm.trans ho2)
     exact absurd hon (hnot e he hb)
   obtain ⟨p1, p2, p3⟩ := Oper.apart_spec (hfree j oj hoj hji hjun hnot)
   have next : ∀ u L', (∀ p, p ∈ Kq.getD i [] → p ∈ L') → xJg P ops B0 w0 Kq Q fuel ((listed.setIfInBounds i true).setIfInBounds j true) ((a.put oi.dst v).put oj.dst u) L' → xJg P ops B0 w0 Kq Q (fuel + 1) (listed.setIfInBounds j true) (a.put oj.dst u) L' := fun u L' hL' Hj => by
    refine ih (listed.setIfInBounds j true) (a.put oj.dst u) L' (fun k ok hk hki hun hno => ?_) (ready_mono hr (Ne.symm hji)) (fun L'' hL'' => (xBa.of_put (fun cs b => hs i oi cs b hi) p3).2 (hy L'' hL'')) hL' ?_
    ·refine hfree k ok hk hki ?_ hno
     by_cases hjk : j = k
     ·subst hjk; exact hjun
     ·rw [getD_set_ne true hjk] at hun; exact hun
    ·rw [Array.setIfInBounds_comm _ _ hji, ← Act.put_comm a v u p2]
     exact Hj
   rcases hH with ⟨u, hyj, hn⟩ | ⟨u, L', hyj, hk, hn⟩
   ·exact ⟨oj, hoj, .inl ⟨u, (xBa.of_put (fun cs b => hs j oj cs b hoj) p1).1 hyj, next _ _ hL hn⟩⟩
   ·exact ⟨oj, hoj, .inr ⟨u, L', (xBa.of_put (fun cs b => hs j oj cs b hoj) p1).1 hyj, hk, next _ _ (fun p hp => hk i p hwait hp) hn⟩⟩
def headV (P : Program) (ops : Array Oper) (B0 : Nat) (w0 : World) (K : Act → Prop) : List (List (Nat × Obj)) → List Oper → Act → Prop
 | kp :: ks, o :: l, a => ∃ v, (∀ L', (∀ p, p ∈ kp → p ∈ L') → xBa P ops o v a (Rep B0 w0 L') (Rep B0 w0 L')) ∧ headV P ops B0 w0 K ks l (a.put o.dst v)
 | [], [], a => K a
 | _, _, _ => False
def tailV (P : Program) (ops : Array Oper) (B0 : Nat) (w0 : World) (Kq : List (List (Nat × Obj))) (Q : Exit → Act → World → Prop) : Nat → List Oper → List (Nat × Obj) → Act → Prop
 | _, [], L, a => ∀ w, Rep B0 w0 L w → Q .normal a w
 | t, o :: r, L, a => ∃ v L', xBa P ops o v a (Rep B0 w0 L) (Rep B0 w0 L') ∧ (∀ k p, xJe ops t k = false → p ∈ Kq.getD k [] → p ∈ L') ∧ tailV P ops B0 w0 Kq Q (t + 1) r L' (a.put o.dst v)
theorem headJ_all (hsel : Region.noSelect ops = true) {L : List (Nat × Obj)} {K : Act → Prop} {n : Nat} (ks : List (List (Nat × Obj))) : ∀ (l : List Oper) (k : Nat) (listed : Array Bool) (a : Act), (∀ j, j < ks.length → Kq.getD (k + j) [] = ks.getD j []) → (∀ kp ∈ ks, ∀ p ∈ kp, p ∈ L) → (∀ j, j < l.length → ops[k + j]? = l[j]?) → ordB ops (List.range' k ks.length) listed = true → headV P ops B0 w0 K ks l a →
  (∀ a', K a' → xJg P ops B0 w0 Kq Q n (xCp (List.range' k ks.length) listed) a' L) → xJg P ops B0 w0 Kq Q (ks.length + n) listed a L := by
 induction ks with
 | nil =>
  intro l k listed a _ _ _ _ h hn
  cases l with
  | nil => rw [List.length_nil, Nat.zero_add]; exact hn a h
  | cons o l => exact h.elim
 | cons kp ks ih =>
  intro l k listed a hk hL hl hB h hn
  cases l with
  | nil => exact h.elim
  | cons o l =>
   obtain ⟨v, hy, hr⟩ := h
   have ho : ops[k]? = some o := by simpa using hl 0 (by simp)
   have hk0 : Kq.getD k [] = kp := by simpa using hk 0 (by simp)
   simp only [List.length_cons, List.range'_succ, ordB, Bool.and_eq_true] at hB
   obtain ⟨⟨h1, h2⟩, h3⟩ := hB
   rw [List.length_cons, show ks.length + 1 + n = (ks.length + n) + 1 by omega]
   refine headJ_first ho (Region.noSelect_spec hsel) (ks.length + n) listed a L (Region.free_spec ho h2) (by simpa using h1) (fun L' hL' => hy L' (by rw [hk0] at hL'; exact hL')) (by rw [hk0]; exact hL kp (.head _)) ?_
   refine ih l (k + 1) _ _ (fun j hj => ?_) (fun q hq => hL q (.tail _ hq)) (fun j hj => ?_) (by simpa using h3) hr (fun a' ha' => ?_)
   ·have := hk (j + 1) (by simp; omega)
    simpa [Nat.add_assoc, Nat.add_comm 1 j] using this
   ·have := hl (j + 1) (by simp; omega)
    simpa [Nat.add_assoc, Nat.add_comm 1 j] using this
   ·have := hn a' ha'
    rw [List.length_cons, List.range'_succ] at this
    exact this
theorem tailJ : ∀ (r : List Oper) (t : Nat) (listed : Array Bool) (a : Act) (L : List (Nat × Obj)), (∀ j, j < r.length → ops[t + j]? = r[j]?) → seqB ops (List.range' t r.length) listed = true → tailV P ops B0 w0 Kq Q t r L a → xJg P ops B0 w0 Kq Q r.length listed a L
  | [], t, listed, a, L, _, hB, h => ⟨by simpa [seqB] using hB, h⟩
  | o :: r, t, listed, a, L, hl, hB, h => by
    have ho : ops[t]? = some o := by simpa using hl 0 (by simp)
    obtain ⟨v, L', hy, hk, hr⟩ := h
    simp only [List.length_cons, List.range'_succ, seqB, Bool.and_eq_true, decide_eq_true_eq] at hB
    rw [List.length_cons]
    refine ⟨fun h0 => (by rw [h0] at hB; cases hB.1), fun i hi => ?_⟩
    rw [hB.1] at hi
    obtain rfl : i = t := by simpa using hi
    exact ⟨o, ho, .inr ⟨v, L', hy, hk, tailJ r (i + 1) _ _ L' (fun j hj => by have := hl (j + 1) (by simp; omega); simpa [Nat.add_assoc, Nat.add_comm 1 j] using this) (by simpa using hB.2) hr⟩⟩
theorem xJf {id : Nat} {w : World} {l1 l2 : List Oper} {L : List (Nat × Obj)} {a : Act} (hR : Rep B0 w0 L w) (hm : P.follows .mixedOrders = true) (hlen : Kq.length = l1.length)
  (hB : (Region.noSelect (l1 ++ l2).toArray && ordB (l1 ++ l2).toArray (List.range' 0 l1.length) (Array.replicate (l1 ++ l2).length false) && seqB (l1 ++ l2).toArray (List.range' l1.length l2.length) (xCp (List.range' 0 l1.length) (Array.replicate (l1 ++ l2).length false))) = true)
  (hL : ∀ kp ∈ Kq, ∀ p ∈ kp, p ∈ L)
  (h : headV P (l1 ++ l2).toArray B0 w0 (fun a' => tailV P (l1 ++ l2).toArray B0 w0 Kq Q l1.length l2 L a') Kq l1 a) : (Code.region id (l1 ++ l2).toArray true).wp P Q a w := by
 simp only [Bool.and_eq_true] at hB
 obtain ⟨⟨h1, h2⟩, h3⟩ := hB
 refine wp_region_any hm ?_
 have key := headJ_all (Q := Q) (Kq := Kq) (n := l2.length) h1 Kq l1 0 (Array.replicate (l1 ++ l2).length false) a (fun j hj => by simp) hL (fun j hj => by simp [List.getElem?_append_left hj]) (by rw [hlen]; exact h2) h (fun a' ha' => by
  rw [hlen]
  exact tailJ l2 l1.length _ a' L (fun j hj => by rw [List.getElem?_toArray, List.getElem?_append_right (by omega), Nat.add_sub_cancel_left]) h3 ha')
 have := xIy _ _ _ _ _ hR.drew key
 simpa [hlen] using this
theorem xIb {id : Nat} {w : World} {l : List Oper} {L : List (Nat × Obj)} {a : Act} (hR : Rep B0 w0 L w) (n : Nat) (Kq : List (List (Nat × Obj))) (hm : P.follows .mixedOrders = true) (hlen : Kq.length = (l.take n).length)
  (hB : (Region.noSelect l.toArray && ordB l.toArray (List.range' 0 (l.take n).length) (Array.replicate l.length false) && seqB l.toArray (List.range' (l.take n).length (l.drop n).length) (xCp (List.range' 0 (l.take n).length) (Array.replicate l.length false))) = true)
  (hL : ∀ kp ∈ Kq, ∀ p ∈ kp, p ∈ L)
  (h : headV P l.toArray B0 w0 (fun a' => tailV P l.toArray B0 w0 Kq Q (l.take n).length (l.drop n) L a') Kq (l.take n) a) : (Code.region id l.toArray true).wp P Q a w := by
 have e : l = l.take n ++ l.drop n := (List.take_append_drop n l).symm
 have := xJf (P := P) (Q := Q) (id := id) (l1 := l.take n) (l2 := l.drop n) (a := a) (Kq := Kq) hR hm hlen (by rw [← e]; exact hB) hL (by rw [← e]; exact h)
 rw [← e] at this
 exact this
theorem hv_loadAll {r : List Oper} {o : Oper} {ks : List (List (Nat × Obj))} {kp : List (Nat × Obj)} {a : Act} {K : Act → Prop} (hw : Region.wanted o (yielded ops a.tmps) = true) {ty : TypeId} {x : Operand} (hop : o.op = .load ty x) {n : Nat} {b : Nat} (hx : a.eval x = .pointer (some ⟨b, 0, none⟩)) (hT : RowT P ty n) {l : List Value} {t : TypeId}
  (hm : (b, Obj.cells l.toArray t) ∈ kp) (hn : l.length = n) {a' : Act} (ha : a.put o.dst (.agg l.toArray) = a') (h : headV P ops B0 w0 K ks r a') : headV P ops B0 w0 K (kp :: ks) (o :: r) a :=
 ⟨.agg l.toArray, fun L' hL' => .inl ⟨hw, fun w hR => by
  unfold execOp
  simp only [hop, hx, Instr.loadAt, Instr.sureAddr, Sem.run_bind, Sem.run_pure, Result.andThen_ok, Rep.loadAll (P := P) (ty := ty) hR (hL' _ hm) hn]
  exact ⟨rfl, hR⟩⟩, by rw [ha]; exact h⟩
theorem hv_nil {a : Act} {K : Act → Prop} (h : K a) : headV P ops B0 w0 K [] [] a := h
theorem tv_storeAll {r : List Oper} {o : Oper} {t0 : Nat} {L L' : List (Nat × Obj)} {a : Act} (hw : Region.wanted o (yielded ops a.tmps) = true) {ty : TypeId} {x y : Operand} (hop : o.op = .store ty x y) {n : Nat} {b : Nat} (hx : a.eval x = .pointer (some ⟨b, 0, none⟩)) (hT : RowT P ty n) {l vs : List Value} {t : TypeId}
  (hy : a.eval y = .agg vs.toArray) (hs : xBq L b (.cells l.toArray t) (.cells vs.toArray t) L') (h1 : vs.all (·.oneCell') = true) (hvn : vs.length = n) (hn : l.length = n)
  (hk : ∀ k p, xJe ops t0 k = false → p ∈ Kq.getD k [] → p ∈ L') {a' : Act} (ha : a.put o.dst undef = a') (h : tailV P ops B0 w0 Kq Q (t0 + 1) r L' a') : tailV P ops B0 w0 Kq Q t0 (o :: r) L a :=
 ⟨undef, L', .inl ⟨hw, fun w hR => by
  obtain ⟨w', e, hR'⟩ := hR.storeRow (P := P) (ty := ty) h1 hvn hs (show 0 + n ≤ l.length by omega) (show l.take 0 ++ vs ++ l.drop (0 + n) = vs by simp [← hn])
  unfold execOp
  simp only [hop, hx, hy, Instr.storeAt, Instr.sureAddr, Sem.run_bind, Sem.run_pure, Result.andThen_ok, e]
  exact ⟨rfl, hR'⟩⟩, hk, by rw [ha]; exact h⟩
theorem tv_nil {t0 : Nat} {L : List (Nat × Obj)} {a : Act} (h : ∀ w, Rep B0 w0 L w → Q .normal a w) : tailV P ops B0 w0 Kq Q t0 [] L a := h
end
end
section
attribute [local irreducible] Calls
noncomputable def invM : Nat → Nat → Nat := opq fun a m => if Nat.gcd a m = 1 then invN a m else 0
theorem invM_yes {a m : Nat} (h : Nat.gcd a m = 1) : invM a m = invN a m := by unfold invM; rw [xBs, if_pos h]
theorem invM_no {a m : Nat} (h : Nat.gcd a m ≠ 1) : invM a m = 0 := by unfold invM; rw [xBs, if_neg h]
theorem invm_any (a b m : Nat) (ha : a < m) (hm : m < B) (h1 : 1 < m) (w : World) : Calls Tryz.prog 208 #[num a, num b, num m] w fun e w' =>
  e = .returned (num (invM a m)) ∧ Below w.heap.size w w' := by
 obtain ⟨n0, h0⟩ : ∃ n, n = 0 := ⟨_, rfl⟩
 obtain ⟨n1, hn1⟩ : ∃ n, n = 1 := ⟨_, rfl⟩
 have L1 : n1 < B := lt_B (by omega)
 have o0 : ∀ w, Calls Tryz.prog 171 #[.int .u64 0] w fun e w' => e = .returned (num n0) ∧ Below w.heap.size w w' := fun w => by
  rw [h0]; exact xFh 0 (by decide) w
 have o1 : ∀ w, Calls Tryz.prog 171 #[.int .u64 1] w fun e w' => e = .returned (num n1) ∧ Below w.heap.size w w' := fun w => by
  rw [hn1]; exact xFh 1 (by decide) w
 obtain ⟨G, hG⟩ : ∃ G, Nat.gcd a m = G := ⟨_, rfl⟩
 have LG : G < B := by rw [← hG]; exact gcd_lt_B (by omega) hm
 have cg := c_lit (r := G) (by omega : a < B) hm (by rw [xGv, hG])
 by_cases hz : G = 1
 ·rw [invM_yes (by rw [hG, hz])]
  have eg : eqN G n1 = true := xFw (by omega)
  have a0 : 1 ≤ a := by
   rcases Nat.eq_zero_or_pos a with h | h
   ·rw [h, Nat.gcd_zero_left] at hG; omega
   ·exact h
  obtain ⟨N, R, S, X, Y, k1, k2, k3, k4, k5, k6, k7, k8⟩ := xIu a m h1 a m 0 1 (by rw [Nat.gcd_comm, hG, hz]) a0 ha (Nat.le_refl _) (by omega) h1 (by rw [Nat.zero_mul, Nat.zero_mod, Nat.mod_self]) (by rw [Nat.one_mul])
  have e9 := invN_is (k7 0 (Nat.zero_le _)).2.2.2 k6
  rw [e9]
  have hR := Rep.init w
  rw [← h0] at k3
  rw [← hn1] at k4 k5
  replace hn1 := Held.mk hn1
  replace k1 := Held.mk k1
  replace k2 := Held.mk k2
  replace k3 := Held.mk k3
  replace k4 := Held.mk k4
  replace k5 := Held.mk k5
  replace k7 := Held.mk k7
  replace k8 := Held.mk k8
  clear h0 hG hz LG k6 e9
  go_enter Tryz.func208, Tryz.ntmps208
  go_wp2_with (first | (refine' aAq hR ?_; clear hR; intro blk w hR) | (refine' aBq hR ?_; clear hR; intro blk w hR) | (refine' aEq hR ?_) | (go_at_call 209; refine (cg _).mono ?_; rintro e w ⟨rfl, hb⟩; replace hR := hR.call hb; clear hb) | (go_at_call 171; refine (o1 _).mono ?_; rintro e w ⟨rfl, hb⟩; replace hR := hR.call hb; clear hb))
  rename_i b3 _ b4 _ b5 _ _ _ _ _
  clear cg
  refine' xIv (ts := [1, 1, 1, 1, 2, 2, 2, 2, 2, 2, 2, 2]) (R := [⟨4, 7, _, _⟩, ⟨5, 8, _, _⟩, ⟨6, 9, _, _⟩, ⟨7, 10, _, _⟩]) (r := [8, 9, 10, 11]) ?hRR xBd ?hB ?htl ?hlen ?hlen2 ?hal ?_
  case hRR => exact hR
  case hB => kernel_rfl
  case htl => rfl
  case hlen => rfl
  case hlen2 => rfl
  case hal => repeat (first | exact AllAl.nil | (refine' AllAl.cons rfl rfl (xFb rfl rfl ?z) ?_; (case z => exact inferInstance)))
  intro K hK
  clear hR
  repeat ((first | (refine xAp ?_) | (refine' xBu rfl rfl rfl inferInstance ?hm ?hn ?ha ?_; (case hm => first | with_reducible assumption | repeat (first | exact .head _ | apply mT)); (case hn => first | rfl | simp)) | (refine' xBk rfl rfl rfl (xAi Tryz.func171 (by kernel_rfl) (by kernel_rfl) _) (fun w => o0 w) ?ha ?_) | (refine' xBk rfl rfl rfl (xAi Tryz.func171 (by kernel_rfl) (by kernel_rfl) _) (fun w => o1 w) ?ha ?_)); try (case ha => simp only [kP, kQ, kA, kB]; try rfl))
  try simp only [List.nil_append, List.cons_append]
  refine xAo (hK _ _ (fun bs hbs => ?_))
  clear hK K
  obtain ⟨c0, c1, c2, c3, rfl⟩ := len4 hbs
  clear hbs
  simp only [putsA, exts]
  refine xAr (fun Q hQ => ?_)
  simp only [kP, kQ, kA, kB]
  repeat ((refine' aKq ?hk ?ha ?_); (case hk => intro p hp; repeat (first | exact hp | apply mT)); (case ha => simp only [kP, kQ, kA, kB]; try rfl))
  refine xAs (fun w hR => hQ _ _ ?_)
  clear hQ Q
  go_wp2_with (fail)
  refine' xBm (false :: false :: false :: false :: false :: false :: false :: false :: false :: false :: false :: true :: true :: true :: true :: true :: false :: false :: false :: false :: false :: false :: false :: false :: false :: false :: true :: true :: true :: true :: true :: true :: true :: true :: true :: true :: true :: true :: true :: true :: true :: true :: true :: true :: true :: true :: true :: true :: true :: true :: false :: []) (fun j l => l) (fun j => [(c3, .cells (nl (Y j)).toArray 24), (c2, .cells (nl (X j)).toArray 24), (c1, .cells (nl (S j)).toArray 24), (c0, .cells (nl (R j)).toArray 24), (blk, .cells (nl 0).toArray 24), (b5, .cells (nl m).toArray 24), (b4, .cells (nl b).toArray 24), (b3, .cells (nl a).toArray 24)]) N ?h0 ?hR ?hs ?he
  case hR =>
   show Rep _ _ [(_, .cells (nl (Y N)).toArray _), (_, .cells (nl (X N)).toArray _), (_, .cells (nl (S N)).toArray _), (_, .cells (nl (R N)).toArray _), _, _, _, _] _
   rw [k1.out, k2.out, k3.out, k4.out, ← xDf]
   exact hR
  case h0 =>
   exact xAf rfl rfl rfl
  case hs =>
   clear hR
   intro j tm w hj ht hR K hK
   repeat (first | (obtain ⟨x, tm', e, ht'⟩ := xAc ht; clear ht; subst e; have ht := ht'; clear ht') | (obtain ⟨tm', e, ht'⟩ := xAa ht; clear ht; subst e; have ht := ht'; clear ht'))
   obtain rfl := xAe ht
   clear ht
   obtain ⟨g1, g2, g3, g4, g5⟩ := k8.out j hj
   obtain ⟨l1, l2, l3, l4⟩ := k7.out (j + 1) (by omega)
   have l5 := (k7.out j (by omega)).2.1
   obtain ⟨Q, hQ⟩ : ∃ Q, R (j + 1) / S (j + 1) = Q := ⟨_, rfl⟩
   rw [hQ] at g5
   have lQ : Q < m := by
    rw [← hQ, Nat.div_lt_iff_lt_mul (by omega)]
    have := Nat.mul_le_mul_left m (show 2 ≤ S (j + 1) by omega)
    omega
   obtain ⟨T, hT⟩ : ∃ T, mulN Q (Y (j + 1)) m = T := ⟨_, rfl⟩
   have lT : T < m := by rw [← hT, xCm]; exact Nat.mod_lt _ (by omega)
   rw [hT] at g5
   have dq := d_lit (q := Q) (r := S j) (e := 0) (show R (j + 1) < B by omega) (show S (j + 1) < B by omega) (by rw [xEw, hQ]) (by rw [xEs (by omega), g3]) (by rw [if_neg (by omega)])
   have tq := fun w => xIi Q (Y (j + 1)) m lQ l4 hm w
   rw [hT] at tq
   have sq := fun w => mods_sub (X (j + 1)) T m (by omega) (by omega) hm w
   rw [if_pos ⟨h1, l3, lT⟩, if_pos ⟨h1, l3, lT⟩, ← g5] at sq
   have es : eqN (S (j + 1)) n1 = false := xDq (by omega) L1 (by have := hn1.out; omega)
   have gR := Held.mk g2
   have gX := Held.mk g4
   clear g1 g2 g3 g4 g5 l1 l2 l3 l4 l5 hQ lQ hT lT
   generalize S (j + 1) = s at *
   generalize R (j + 1) = r at *
   generalize X (j + 1) = x at *
   generalize Y (j + 1) = y at *
   go_wp2_with (fail)
   refine xAd hR [0, 0, 0] [] xBd (by kernel_rfl) rfl rfl (fun K hK => ?_)
   clear hR
   repeat ((first | (refine' aIq ?ha ?_) | ((refine' xAm (by decide) rfl rfl rfl rfl (fun w => ?hq) ?ha ?_); (case hq => go_simp; try rfl)) | (refine' xAk rfl rfl rfl (xAi Tryz.func171 (by kernel_rfl) (by kernel_rfl) _) (fun w => o1 w) ?ha ?_)); try (case ha => simp only [kP, kQ, kA, kB]; try rfl))
   refine xAo (hK _ _ ?_)
   clear hK K
   refine xAr (fun Q hQ => ?_)
   try simp only [List.nil_append, List.cons_append]
   repeat ((fail); (case hk => intro p hp; first | exact absurd hp List.not_mem_nil | (obtain rfl := List.mem_singleton.1 hp; repeat (first | exact List.Mem.head _ | apply mT))); (case ha => simp only [kP, kQ, kA, kB]; try rfl))
   refine xAs (fun w hR => hQ _ _ ?_)
   clear hQ Q
   go_wp2_with (first | (refine' aBq hR ?_; clear hR; intro blk w hR) | (refine' aEq hR ?_) | (refine' aFq hR ?_; clear hR; intro w hR) | (go_at_call 210; refine (dq _).mono ?_; rintro e w ⟨rfl, hb⟩; replace hR := hR.call hb; clear hb))
   refine' xCg hR [1, 1, 1, 1, 1, 1, 1, 1, 1, 1, 2, 2, 2] 10 14 _ _ [11, 12] xBd (by kernel_rfl) rfl rfl rfl rfl rfl (xFb rfl rfl ?z1) ?_
   case z1 => exact inferInstance
   intro K hK
   clear hR
   repeat ((first | (refine xAp ?_) | (refine' xAj (by decide) rfl (.inl rfl) rfl ?ha ?_) | (refine' xBu rfl rfl rfl inferInstance ?hm ?hn ?ha ?_; (case hm => first | with_reducible assumption | repeat (first | exact .head _ | apply mT)); (case hn => first | rfl | simp)) | ((refine' xAt (by decide) rfl rfl rfl (fun w => ?hq) ?ha ?_); (case hq => go_simp; try rfl)) | (refine' xBk rfl rfl rfl (xAi Tryz.func207 (by kernel_rfl) (by kernel_rfl) _) (fun w => tq w) ?ha ?_) | (refine' xBk rfl rfl rfl (xAi Tryz.func175 (by kernel_rfl) (by kernel_rfl) _) (fun w => sq w) ?ha ?_)); try (case ha => simp only [kP, kQ, kA, kB]; try rfl))
   try simp only [List.nil_append, List.cons_append]
   refine xAo (hK _ _ (fun _ => ?_))
   clear hK K
   refine xAr (fun Q hQ => ?_)
   simp only [kP, kQ, kA, kB]
   repeat ((first | refine' xBf rfl (.inr rfl) rfl ?hk ?ha ?_ | (refine' aKq ?hk ?ha ?_)); (case hk => intro p hp; repeat (first | exact hp | apply mT)); (case ha => simp only [kP, kQ, kA, kB]; try rfl))
   refine xAs (fun w hR => hQ _ _ ?_)
   clear hQ Q
   go_wp2_with (fail)
   rename_i bz
   refine' xIb hR 4 [[(c1, .cells (nl s).toArray 24)], [(blk, .cells (nl (S j)).toArray 24)], [(c3, .cells (nl y).toArray 24)], [(bz, .cells (nl (Y j)).toArray 24)]] xBd rfl (by kernel_rfl) ?hL ?_
   case hL =>
    intro kp hkp p hp
    simp only [List.mem_cons, List.not_mem_nil, or_false] at hkp
    rcases hkp with rfl | rfl | rfl | rfl <;> (obtain rfl := List.mem_singleton.1 hp; repeat (first | exact List.Mem.head _ | apply mT))
   clear hR
   simp only [List.take_succ_cons, List.take_zero, List.drop_succ_cons, List.drop_zero, List.length_cons, List.length_nil]
   repeat (first | (refine' hv_loadAll rfl rfl rfl ?hT ?hm ?hn ?ha ?_; (case hT => exact inferInstance); (case hm => exact .head _); (case hn => first | rfl | simp); (case ha => simp only [kP, kQ, kA, kB]; try rfl)))
   refine hv_nil ?_
   repeat (first | (refine' tv_storeAll rfl rfl rfl ?hT rfl ?hs rfl rfl ?hn ?hk ?ha ?_; (case hT => exact inferInstance); (case hs => repeat (first | exact xBq.head | apply xBq.tail)); (case hn => first | rfl | simp); (case hk => intro k p hwt hp; rcases k with _ | _ | _ | _ | k; all_goals first | (exfalso; simp at hp; done) | (obtain rfl := List.mem_singleton.1 hp; (repeat (first | exact List.Mem.head _ | apply mT)); done) | (have hcc := hwt.symm.trans (show xJe _ _ _ = true by kernel_rfl); exact absurd hcc (by decide))); (case ha => simp only [kP, kQ, kA, kB]; try rfl)))
   refine tv_nil (fun w hR => ?_)
   go_wp2_with (fail)
   refine hK.out _ _ (xAf rfl rfl rfl) ?_
   show Rep _ _ ((_, .cells (nl (Y j)).toArray _) :: (_, .cells (nl (X j)).toArray _) :: (_, .cells (nl (S j)).toArray _) :: (_, .cells (nl (R j)).toArray _) :: _) _
   rw [gR.out, gX.out]
   exact hR.weaken (List.sublist_append_right [_, _, _] _)
  case he =>
   clear hR
   intro tm w ht hR K
   repeat (first | (obtain ⟨x, tm', e, ht'⟩ := xAc ht; clear ht; subst e; have ht := ht'; clear ht') | (obtain ⟨tm', e, ht'⟩ := xAa ht; clear ht; subst e; have ht := ht'; clear ht'))
   obtain rfl := xAe ht
   clear ht
   have e1 : eqN (S 0) n1 = true := xFw k5.out
   go_wp2_with (fail)
   refine xAd hR [0, 0, 0] [] xBd (by kernel_rfl) rfl rfl (fun K hK => ?_)
   clear hR
   repeat ((first | (refine' aIq ?ha ?_) | ((refine' xAm (by decide) rfl rfl rfl rfl (fun w => ?hq) ?ha ?_); (case hq => go_simp; try rfl)) | (refine' xAk rfl rfl rfl (xAi Tryz.func171 (by kernel_rfl) (by kernel_rfl) _) (fun w => o1 w) ?ha ?_)); try (case ha => simp only [kP, kQ, kA, kB]; try rfl))
   refine xAo (hK _ _ ?_)
   clear hK K
   refine xAr (fun Q hQ => ?_)
   try simp only [List.nil_append, List.cons_append]
   repeat ((fail); (case hk => intro p hp; first | exact absurd hp List.not_mem_nil | (obtain rfl := List.mem_singleton.1 hp; repeat (first | exact List.Mem.head _ | apply mT))); (case ha => simp only [kP, kQ, kA, kB]; try rfl))
   refine xAs (fun w hR => hQ _ _ ?_)
   clear hQ Q
   go_wp2_with (first | (refine' aEq hR ?_) | (refine' aFq hR ?_; clear hR; intro w hR))
   (refine' bodyPost_ret (xAq Tryz.results208 rfl (hR.loadAll (P := Tryz.prog) (ty := 24) ?hm ?hn)) rfl ⟨?_, hR.below⟩; (case hm => first | with_reducible assumption | repeat (first | exact .head _ | apply mT)); (case hn => first | rfl | simp))
   rfl
 ·rw [invM_no (by rw [hG]; exact hz)]
  have eg : eqN G n1 = false := xDq LG L1 (by omega)
  clear h0 hG hz LG L1 hn1
  have hR := Rep.init w
  go_enter Tryz.func208, Tryz.ntmps208
  go_wp2_with (first | (refine' aAq hR ?_; clear hR; intro blk w hR) | (refine' aBq hR ?_; clear hR; intro blk w hR) | (refine' aEq hR ?_) | (refine' aFq hR ?_; clear hR; intro w hR) | (go_at_call 209; refine (cg _).mono ?_; rintro e w ⟨rfl, hb⟩; replace hR := hR.call hb; clear hb) | (go_at_call 171; refine (o1 _).mono ?_; rintro e w ⟨rfl, hb⟩; replace hR := hR.call hb; clear hb))
  (refine' bodyPost_ret (xAq Tryz.results208 rfl (hR.loadAll (P := Tryz.prog) (ty := 24) ?hm ?hn)) rfl ⟨?_, hR.below⟩; (case hm => first | with_reducible assumption | repeat (first | exact .head _ | apply mT)); (case hn => first | rfl | simp))
  rw [xBe]
end
end Go.Proofs.YtaaahfjpnggkbaaGreatDoor
