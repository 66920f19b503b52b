/- The walk of balefirelaw09.ScalarsParts, where all numbers may be. -/
import Derived.Test.YtjkkjdepmijpcaaRowFour
set_option linter.unusedSimpArgs false
set_option linter.unusedVariables false
namespace Go.Proofs.Ytjkkjdepmijpcaa
open Go.RowKit
attribute [local irreducible] Calls

/-- Fractions, added and multiplied. -/
theorem frac_mul {a b c d i j k q : Nat} (hk : mulN i j q = k) : mulN (mulN a i q) (mulN c j q) q = mulN (mulN a c q) k q := by
  rw [← hk]
  simp only [mulN_def, Nat.mod_mul_mod, Nat.mul_mod_mod]
  rw [show a * i * (c * j) = a * c * (i * j) by grind]
theorem frac_add {a b c d i j k q : Nat} (h1 : 1 < q) (ha : a < q) (hc : c < q) (hb : mulN b i q = 1) (hd : mulN d j q = 1) (hk : mulN i j q = k) :
    (mulN a i q + mulN c j q) % q = mulN ((mulN a d q + mulN c b q) % q) k q := by
  rw [← hk]
  rw [mulN_def] at hb hd
  simp only [mulN_def, Nat.mod_mul_mod, Nat.mul_mod_mod, Nat.mod_add_mod, Nat.add_mod_mod]
  rw [show (a * d + c * b) * (i * j) = a * i * (d * j) + c * j * (b * i) by grind, Nat.add_mod (a * i * (d * j)), Nat.mul_mod (a * i) (d * j), hd, Nat.mul_mod (c * j) (b * i), hb, Nat.mul_one, Nat.mul_one, Nat.mod_mod, Nat.mod_mod, ← Nat.add_mod]

set_option maxRecDepth 100000 in
set_option maxHeartbeats 8000000 in
theorem parts_yes (p q g h : Nat) (hp : p < B) (hq : q < B) (hg : g < B) (hh : h < B) (a b c d : Nat) (ha : a < B) (hb : b < B) (hc : c < B) (hd : d < B) (ok : (invE b q = 0 ∧ invE d q = 0 ∧ a < q ∧ c < q)) (w : World) : Calls Try.prog 6 #[grp p q g h, grp a b c d] w fun e w' =>
    e = .returned (.bool true) ∧ Below w.heap.size w w' := by
  have es := eqN_self
  have al := fun w => alive9_any w
  have tq := gl_q p q g h
  have ta := gl_p a b c d
  have tb := gl_q a b c d
  have tc := gl_g a b c d
  have td := gl_h a b c d
  have c2 := cmp_lit ha hq rfl
  have c3 := cmp_lit hc hq rfl
  have k2 := cmpN_ge a q
  have k3 := cmpN_ge c q
  obtain ⟨i, hi⟩ : ∃ i, (if okE b q then invM b q else 0) = i := ⟨_, rfl⟩
  obtain ⟨j, hj⟩ : ∃ i, (if okE d q then invM d q else 0) = i := ⟨_, rfl⟩
  obtain ⟨e, he⟩ : ∃ e, invE b q = e := ⟨_, rfl⟩
  obtain ⟨f, hf⟩ : ∃ e, invE d q = e := ⟨_, rfl⟩
  have v1 := sinv_lit (p := p) (g := g) (h := h) hb hq hi he
  have v2 := sinv_lit (p := p) (g := g) (h := h) hd hq hj hf
  rw [he, hf] at ok
  obtain ⟨e0, f0, la, lc⟩ := ok
  have ob : okE b q := Decidable.byContradiction fun n => by rw [invE_not n] at he; omega
  have od : okE d q := Decidable.byContradiction fun n => by rw [invE_not n] at hf; omega
  have gb : Nat.gcd b q = 1 := Decidable.byContradiction fun n => by
    unfold invE at he; rw [if_pos ob, if_neg n] at he; omega
  have gd : Nat.gcd d q = 1 := Decidable.byContradiction fun n => by
    unfold invE at hf; rw [if_pos od, if_neg n] at hf; omega
  have q1 := ob.1
  have lb := ob.2
  have ld := od.2
  rw [if_pos ob] at hi
  rw [if_pos od] at hj
  have sb := invM_spec q1 lb gb
  have sd := invM_spec q1 ld gd
  rw [hi] at sb
  rw [hj] at sd
  subst e0 f0
  have j2 : decide (0 ≤ cmpN a q) = false := decide_eq_false (fun h => by have := k2.mp h; omega)
  have j3 : decide (0 ≤ cmpN c q) = false := decide_eq_false (fun h => by have := k3.mp h; omega)
  generalize cmpN a q = x2 at *
  generalize cmpN c q = x3 at *
  obtain ⟨x, hx⟩ : ∃ x, mulN a i q = x := ⟨_, rfl⟩
  obtain ⟨y, hy⟩ : ∃ x, mulN c j q = x := ⟨_, rfl⟩
  have lx : x < q := by rw [← hx]; exact mul_lt' q1 _ _
  have ly : y < q := by rw [← hy]; exact mul_lt' q1 _ _
  obtain ⟨S, hS⟩ : ∃ s, (x + y) % q = s := ⟨_, rfl⟩
  obtain ⟨M, hM⟩ : ∃ m, mulN x y q = m := ⟨_, rfl⟩
  obtain ⟨ad, had⟩ : ∃ x, mulN a d q = x := ⟨_, rfl⟩
  obtain ⟨cb, hcb⟩ : ∃ x, mulN c b q = x := ⟨_, rfl⟩
  have lad : ad < q := by rw [← had]; exact mul_lt' q1 _ _
  have lcb : cb < q := by rw [← hcb]; exact mul_lt' q1 _ _
  obtain ⟨top, htop⟩ : ∃ x, (ad + cb) % q = x := ⟨_, rfl⟩
  have ltop : top < q := by rw [← htop]; exact Nat.mod_lt _ (by omega)
  obtain ⟨ac, hac⟩ : ∃ x, mulN a c q = x := ⟨_, rfl⟩
  have lac : ac < q := by rw [← hac]; exact mul_lt' q1 _ _
  obtain ⟨bd, hbd⟩ : ∃ x, mulN b d q = x := ⟨_, rfl⟩
  have lbd : bd < q := by rw [← hbd]; exact mul_lt' q1 _ _
  have gbd : Nat.gcd bd q = 1 := by rw [← hbd]; exact (gcd_prod b d q).2 ⟨gb, gd⟩
  obtain ⟨k, hk⟩ : ∃ k, invM bd q = k := ⟨_, rfl⟩
  have ek : mulN i j q = k := by rw [← hi, ← hj, ← hk, ← hbd]; exact inv_prod q1 lb ld gb gd
  have lk : k < q := by rw [← ek]; exact mul_lt' q1 _ _
  have eb : mulN b i q = 1 := by rw [mul_comm', mulN_def]; exact sb.2
  have ed : mulN d j q = 1 := by rw [mul_comm', mulN_def]; exact sd.2
  have eS : mulN top k q = S := by rw [← htop, ← had, ← hcb, ← hS, ← hx, ← hy]; exact (frac_add q1 la lc eb ed ek).symm
  have eM : mulN ac k q = M := by rw [← hac, ← hM, ← hx, ← hy]; exact (frac_mul (b := b) (d := d) ek).symm
  have m1 := SM (p := p) (g := g) (h := h) hq q1 la sb.1 hx
  have m2 := SM (p := p) (g := g) (h := h) hq q1 lc sd.1 hy
  have s1 := SA (p := p) (g := g) (h := h) hq q1 lx ly hS
  have m3 := SM (p := p) (g := g) (h := h) hq q1 lx ly hM
  have m4 := SM (p := p) (g := g) (h := h) hq q1 la ld had
  have m5 := SM (p := p) (g := g) (h := h) hq q1 lc lb hcb
  have s2 := SA (p := p) (g := g) (h := h) hq q1 lad lcb htop
  have m6 := SM (p := p) (g := g) (h := h) hq q1 la lc hac
  have m7 := SM (p := p) (g := g) (h := h) hq q1 lb ld hbd
  have v3 := SI (p := p) (g := g) (h := h) hq q1 lbd gbd hk
  have m8 := SM (p := p) (g := g) (h := h) hq q1 ltop lk eS
  have m9 := SM (p := p) (g := g) (h := h) hq q1 lac lk eM
  clear eM eS ed eb lk ek hk gbd lbd hbd lac hac ltop htop lcb lad hcb had hM hS ly lx hy hx sd sb hj hi ld lb q1 gd gb od ob la lc hf he k2 k3
  have hR := Rep.init w
  go_enter Try.func6, Try.ntmps6
  go_wp2_with (first | (refine' wpList_boxRep hR rfl rfl rfl ?_; clear hR; intro blk w hR) | (refine' wpList_allocRep hR rfl rfl ?hT ?_; (case hT => exact inferInstance); clear hR; intro blk w hR) | (refine' wpList_loadAll hR rfl rfl rfl ?hT ?hm ?hn ?_; (case hT => exact inferInstance); (case hm => first | with_reducible assumption | repeat (first | exact List.Mem.head _ | apply List.Mem.tail)); (case hn => rfl)) | (refine' wpList_loadRow hR rfl rfl rfl ?hT ?hm ?hv ?hn ?_; (case hT => exact inferInstance); (case hm => first | with_reducible assumption | repeat (first | exact List.Mem.head _ | apply List.Mem.tail)); (case hv => first | with_reducible assumption | (simp only [List.drop_succ_cons, List.drop_zero, List.take_succ_cons, List.take_zero]; first | done | rfl)); (case hn => rfl)) | (refine' wpList_loadCell hR rfl rfl rfl ?hT ?hm ?hv ?_; (case hT => exact inferInstance); (case hm => first | with_reducible assumption | repeat (first | exact List.Mem.head _ | apply List.Mem.tail)); (case hv => first | rfl | with_reducible assumption)) | (refine' wpList_storeAll hR rfl rfl rfl ?hT rfl ?hs rfl rfl ?hn ?_; (case hT => exact inferInstance); (case hs => repeat (first | exact SetAt.head | apply SetAt.tail)); (case hn => rfl); clear hR; intro w hR) | (refine' wpList_storeCell hR rfl rfl rfl ?hT rfl rfl ?hs ?hn ?hl ?_; (case hT => exact inferInstance); (case hs => repeat (first | exact SetAt.head | apply SetAt.tail)); (case hn => first | exact of_decide_eq_true rfl | (show _ < 4; with_reducible assumption) | (simp; done) | (simp; omega)); (case hl => first | with_reducible assumption | (simp only [List.set_cons_zero, List.set_cons_succ]; done) | (simp only [List.set_cons_zero, List.set_cons_succ]; rfl) | (simp only [nl, List.set_cons_zero, List.set_cons_succ]; done) | (simp only [nl, List.set_cons_zero, List.set_cons_succ]; rfl) | rfl); clear hR; intro w hR) | (refine' wpList_loadAllG hR rfl rfl rfl ?hT ?hm ?hn ?_; (case hT => exact inferInstance); (case hm => first | with_reducible assumption | repeat (first | exact List.Mem.head _ | apply List.Mem.tail)); (case hn => rfl)) | (refine' wpList_loadCellG hR rfl rfl rfl ?hT ?hm ?hv ?_; (case hT => exact inferInstance); (case hm => first | with_reducible assumption | repeat (first | exact List.Mem.head _ | apply List.Mem.tail)); (case hv => first | rfl | with_reducible assumption)) | (refine' wpList_loadRowG hR rfl rfl rfl ?hT ?hm ?hv ?hn ?_; (case hT => exact inferInstance); (case hm => first | with_reducible assumption | repeat (first | exact List.Mem.head _ | apply List.Mem.tail)); (case hv => with_reducible assumption); (case hn => rfl)) | (go_at_call 19; refine (v1 _).mono ?_; rintro e w ⟨rfl, hb⟩; replace hR := hR.call hb; clear hb) | (go_at_call 19; refine (v2 _).mono ?_; rintro e w ⟨rfl, hb⟩; replace hR := hR.call hb; clear hb) | (go_at_call 19; refine (v3 _).mono ?_; rintro e w ⟨rfl, hb⟩; replace hR := hR.call hb; clear hb) | (go_at_call 12; refine (c2 _).mono ?_; rintro e w ⟨rfl, hb⟩; replace hR := hR.call hb; clear hb) | (go_at_call 12; refine (c3 _).mono ?_; rintro e w ⟨rfl, hb⟩; replace hR := hR.call hb; clear hb) | (go_at_call 18; refine (m1 _).mono ?_; rintro e w ⟨rfl, hb⟩; replace hR := hR.call hb; clear hb) | (go_at_call 18; refine (m2 _).mono ?_; rintro e w ⟨rfl, hb⟩; replace hR := hR.call hb; clear hb) | (go_at_call 18; refine (m3 _).mono ?_; rintro e w ⟨rfl, hb⟩; replace hR := hR.call hb; clear hb) | (go_at_call 18; refine (m4 _).mono ?_; rintro e w ⟨rfl, hb⟩; replace hR := hR.call hb; clear hb) | (go_at_call 18; refine (m5 _).mono ?_; rintro e w ⟨rfl, hb⟩; replace hR := hR.call hb; clear hb) | (go_at_call 18; refine (m6 _).mono ?_; rintro e w ⟨rfl, hb⟩; replace hR := hR.call hb; clear hb) | (go_at_call 18; refine (m7 _).mono ?_; rintro e w ⟨rfl, hb⟩; replace hR := hR.call hb; clear hb) | (go_at_call 18; refine (m8 _).mono ?_; rintro e w ⟨rfl, hb⟩; replace hR := hR.call hb; clear hb) | (go_at_call 18; refine (m9 _).mono ?_; rintro e w ⟨rfl, hb⟩; replace hR := hR.call hb; clear hb) | (go_at_call 16; refine (s1 _).mono ?_; rintro e w ⟨rfl, hb⟩; replace hR := hR.call hb; clear hb) | (go_at_call 16; refine (s2 _).mono ?_; rintro e w ⟨rfl, hb⟩; replace hR := hR.call hb; clear hb) | (go_at_call 14; refine (al _).mono ?_; rintro e w ⟨rfl, hb⟩; replace hR := hR.call hb; clear hb))
  go_ret
  exact ⟨rfl, hR.below⟩
end Go.Proofs.Ytjkkjdepmijpcaa
