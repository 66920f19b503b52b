import Derived.Test.YtaaahfjpnggkbaaGreatDoorZDT
import Derived.Test.YtaaahfjpnggkbaaGreatDoorZR
set_option linter.unusedSimpArgs false
set_option linter.unusedVariables false
set_option maxRecDepth 100000
set_option maxHeartbeats 20000000
namespace Go.Proofs.YtaaahfjpnggkbaaGreatDoor
open Go.RowKit
attribute [local irreducible] Calls Instr.build Instr.buildSlice Instr.makeSlice
noncomputable def gvD (a : Option Addr) (n ca : Nat) (z : Int) (b : Option Addr) (m cb : Nat) (y : Int) : List Value := [.slice a n ca, .int .i64 z, .slice b m cb, .int .i64 y]
instance rowGivD : RowT Tryz.prog 62 4 := .mk' (by kernel_rfl) (by kernel_rfl)
section
variable {a b : Option Addr} {n ca m cb : Nat} {z y : Int}
theorem gd_0 : (gvD a n ca z b m cb y)[0]? = some (.slice a n ca) := rfl
theorem gd_1 : (gvD a n ca z b m cb y)[1]? = some (.int .i64 z) := rfl
theorem gd_2 : (gvD a n ca z b m cb y)[2]? = some (.slice b m cb) := rfl
theorem gd_3 : (gvD a n ca z b m cb y)[3]? = some (.int .i64 y) := rfl
end
theorem dualsof_walk (W : World) (p q g h : Nat) (hp : p < B) (hq : q < B) (hg : g < B) (hh : h < B) (a : Option Addr) (n ca : Nat) (f : Nat → Nat) (z : Int) (b : Option Addr) (m cb : Nat) (V : Nat → Nat) (y : Int) (S1 : NAt W.heap.size W [] a n ca f) (S2 : NAt W.heap.size W [] b m cb V) :
  Calls Tryz.prog 4 #[grp p q g h, .agg (gvD a n ca z b m cb y).toArray] W fun e w' => e = .returned (.bool true) ∧ Below W.heap.size W w' := by
 classical
 have hR := Rep.init W
 have t0 := gd_0 (a := a) (n := n) (ca := ca) (z := z) (b := b) (m := m) (cb := cb) (y := y)
 have t1 := gd_1 (a := a) (n := n) (ca := ca) (z := z) (b := b) (m := m) (cb := cb) (y := y)
 have t2 := gd_2 (a := a) (n := n) (ca := ca) (z := z) (b := b) (m := m) (cb := cb) (y := y)
 have t3 := gd_3 (a := a) (n := n) (ca := ca) (z := z) (b := b) (m := m) (cb := cb) (y := y)
 by_cases c1 : 100 < n
 case pos =>
  have u1 : 100 < (n : Int) := by omega
  have d1 : decide (100 < (n : Int)) = true := decide_eq_true u1
  clear S1 S2 hp hq hg hh c1
  go_enter Tryz.func4, Tryz.ntmps4
  go_wp2_with (first | go_skip | (refine' xBa (l := gl p q g h) hR rfl rfl rfl ?_; clear hR; intro bg w hR) | (refine' xBa (l := gvD a n ca z b m cb y) hR rfl rfl rfl ?_; clear hR; intro bz w hR) | (refine' aAq hR ?_; clear hR; intro blk w hR) | (refine' aBq hR ?_; clear hR; intro blk w hR) | (refine' aPq hR ?_) | (refine' aQq hR ?_) | (refine' aRq hR ?_) | (refine' aZq hR ?_; clear hR; intro w hR) | (refine' aAr hR ?_; clear hR; intro w hR) | (refine' aEr hR ?_) | (refine' aFr hR ?_) | (refine' aHr hR ?_))
  go_ret
  exact ⟨rfl, hR.below⟩
 have u1 : ¬ 100 < (n : Int) := by omega
 have d1 : decide (100 < (n : Int)) = false := decide_eq_false u1
 by_cases c2 : 100 < m
 case pos =>
  have u2 : 100 < (m : Int) := by omega
  have d2 : decide (100 < (m : Int)) = true := decide_eq_true u2
  clear S1 S2 hp hq hg hh c1 c2
  go_enter Tryz.func4, Tryz.ntmps4
  go_wp2_with (first | go_skip | (refine' xBa (l := gl p q g h) hR rfl rfl rfl ?_; clear hR; intro bg w hR) | (refine' xBa (l := gvD a n ca z b m cb y) hR rfl rfl rfl ?_; clear hR; intro bz w hR) | (refine' aAq hR ?_; clear hR; intro blk w hR) | (refine' aBq hR ?_; clear hR; intro blk w hR) | (refine' aPq hR ?_) | (refine' aQq hR ?_) | (refine' aRq hR ?_) | (refine' aZq hR ?_; clear hR; intro w hR) | (refine' aAr hR ?_; clear hR; intro w hR) | (refine' aEr hR ?_) | (refine' aFr hR ?_) | (refine' aHr hR ?_))
  go_ret
  exact ⟨rfl, hR.below⟩
 have u2 : ¬ 100 < (m : Int) := by omega
 have d2 : decide (100 < (m : Int)) = false := decide_eq_false u2
 have n60 : n ≤ 1000 := by omega
 have m60 : m ≤ 1000 := by omega
 obtain ⟨kw, ew, Fw, lkw, lFw, cW, dW⟩ := uni_word (B0 := W.heap.size) (w0 := W) (p := p) (q := q) (g := g) (h := h) (len := n) (P := f) hp hq n60 z
 obtain ⟨sc, ec, cC, dC⟩ := uni_check (B0 := W.heap.size) (w0 := W) (p := p) (q := q) (g := g) (h := h) (n := m) (V := V) hp hq y
 have w1 := fun (L : List (Nat × Obj)) (w : World) (hw : Rep W.heap.size W L w) => twin_nums (S1.any (L := L)) n60 hw
 have w2 := fun (L : List (Nat × Obj)) (w : World) (hw : Rep W.heap.size W L w) => twin_nums (S2.any (L := L)) m60 hw
 replace S1 := Held.mk S1
 replace S2 := Held.mk S2
 replace n60 := Held.mk n60
 replace m60 := Held.mk m60
 replace lkw := Held.mk lkw
 replace lFw := Held.mk lFw
 replace cW := Held.mk @cW
 replace dW := Held.mk @dW
 replace cC := Held.mk @cC
 replace dC := Held.mk @dC
 clear hg hh c1 c2 hp hq
 go_enter Tryz.func4, Tryz.ntmps4
 go_wp2_with (first | go_skip | (refine' xBa (l := gl p q g h) hR rfl rfl rfl ?_; clear hR; intro bg w hR) | (refine' xBa (l := gvD a n ca z b m cb y) hR rfl rfl rfl ?_; clear hR; intro bz w hR) | (refine' aAq hR ?_; clear hR; intro blk w hR) | (refine' aBq hR ?_; clear hR; intro blk w hR) | (refine' aPq hR ?_) | (refine' aQq hR ?_) | (refine' aRq hR ?_) | (refine' aZq hR ?_; clear hR; intro w hR) | (refine' aAr hR ?_; clear hR; intro w hR) | (refine' aEr hR ?_) | (refine' aFr hR ?_) | (refine' aHr hR ?_) | (go_at_call 7; refine (w1 _ _ hR).mono ?_; clear hR w1; rintro e w ⟨g1, p1, rfl, cur1, ho1, hR⟩; replace ho1 := Held.mk ho1) | (go_at_call 7; refine (w2 _ _ hR).mono ?_; clear hR w2; rintro e w ⟨g2, p2, rfl, cur2, ho2, hR⟩; replace ho2 := Held.mk ho2) | (go_at_call 18; refine (cW.out (twin_nat ho1.out (by repeat (first | exact .head _ | with_reducible assumption | apply mC)) S1.out.lt) hR).mono ?_; clear hR; rintro e w ⟨Xw, rfl, hXw, hR⟩; replace hR := hR.permN (List.perm_append_comm_assoc Xw.bl [_, _, _, _] []); simp only [List.cons_append, List.nil_append] at hR; replace hXw := Held.mk hXw) | (go_at_call 19; refine (dW.out S1.out.any hR).mono ?_; clear hR; rintro e w ⟨Yw, rfl, hYw, hR⟩; replace hR := hR.permN (List.perm_append_comm_assoc Yw.bl [_, _, _, _] _); simp only [List.cons_append, List.nil_append] at hR; replace hYw := Held.mk hYw) | (go_at_call 20; refine (cC.out (twin_nat ho2.out (by repeat (first | exact .head _ | with_reducible assumption | apply mC)) S2.out.lt) hR).mono ?_; clear hR; rintro e w ⟨rfl, hR⟩) | (go_at_call 21; refine (dC.out S2.out hR).mono ?_; clear hR; rintro e w ⟨rfl, hR⟩))
 obtain ⟨RR, hRR⟩ : ∃ RR, RR = (bz, Obj.cells (gvD a n ca z b m cb y).toArray 62) :: (bg, Obj.cells (gl p q g h).toArray 26) :: Yw.bl := ⟨_, rfl⟩
 obtain ⟨LL, hLL⟩ : ∃ LL, LL = (g2, Obj.cells cur2.toArray 24) :: (g1, Obj.cells cur1.toArray 24) :: (bz, Obj.cells (gvD a n ca z b m cb y).toArray 62) :: (bg, Obj.cells (gl p q g h).toArray 26) :: (Yw.bl ++ (Xw.bl ++ [])) := ⟨_, rfl⟩
 replace hR : Rep W.heap.size W LL w := by rw [hLL]; exact hR
 obtain ⟨gw, cw, hew, hbw⟩ := grn_ent 3 hXw.out
 have mz : (bz, Obj.cells (gvD a n ca z b m cb y).toArray 62) ∈ LL := by rw [hLL]; repeat (first | exact .head _ | with_reducible assumption | apply mC)
 have mg1 : (g1, Obj.cells cur1.toArray 24) ∈ LL := by rw [hLL]; repeat (first | exact .head _ | with_reducible assumption | apply mC)
 have mg2 : (g2, Obj.cells cur2.toArray 24) ∈ LL := by rw [hLL]; repeat (first | exact .head _ | with_reducible assumption | apply mC)
 have xYw : ∀ p, p ∈ Yw.bl → p ∈ LL := fun p hp => by rw [hLL]; exact .tail _ (.tail _ (.tail _ (.tail _ (List.mem_append_left _ hp))))
 have xXw : ∀ p, p ∈ Xw.bl → p ∈ LL := fun p hp => by rw [hLL]; exact .tail _ (.tail _ (.tail _ (.tail _ (List.mem_append_right _ (List.mem_append_left _ hp)))))
 have cS1 := fun (w : World) (hw : Rep W.heap.size W LL w) => same_nums (grN_nat hXw.out lFw.out xXw) (grN_nat hYw.out lFw.out xYw) lkw.out true ⟨fun _ => ⟨rfl, fun _ _ => rfl⟩, fun _ => rfl⟩ hw
 have cL1 := fun (w : World) (hw : Rep W.heap.size W LL w) => left_nums ho1.out mg1 (S1.out.any (L := LL)) n60.out hw
 have cL2 := fun (w : World) (hw : Rep W.heap.size W LL w) => left_nums ho2.out mg2 (S2.out.any (L := LL)) m60.out hw
 obtain ⟨E5, hE5⟩ : ∃ E, E = at5 (Ent.mk (some ⟨g1, 0, none⟩) n p1 none 0 0 1) (Ent.mk (some ⟨g2, 0, none⟩) m p2 none 0 0 2) (Ent.mk Xw.a kw Xw.cap none 0 0 3) (Ent.mk none 0 0 none 0 0 0) (Ent.mk none 0 0 none 0 0 0) := ⟨_, rfl⟩
 have e0 : E5 0 = ⟨some ⟨g1, 0, none⟩, n, p1, none, 0, 0, 0 + 1⟩ := by rw [hE5]; rfl
 have e1 : E5 1 = ⟨some ⟨g2, 0, none⟩, m, p2, none, 0, 0, 1 + 1⟩ := by rw [hE5]; rfl
 have e2 : E5 2 = ⟨Xw.a, kw, Xw.cap, none, 0, 0, 2 + 1⟩ := by rw [hE5]; rfl
 have hent : ∀ j, j < 3 → EntOk (E5 j) (at5 (some g1) (some g2) gw none none j) (at5 cur1 cur2 cw [] [] j) (at5 (twN f n) (twN V m) Fw Fw Fw j) := fun j hj => by
  rw [hE5]
  match j, hj with
  | 0, _ => exact twin_ent ho1.out
  | 1, _ => exact twin_ent ho2.out
  | 2, _ => exact hew
 have hk5 : ∀ j, j < 3 → (E5 j).k ≤ 1000000 ∧ (E5 j).n ≤ 900000 := fun j hj => by
  have a1 := n60.out; have a2 := m60.out; have a4 := lkw.out
  match j, hj with
  | 0, _ => rw [e0]; exact ⟨by show 0 + 1 ≤ 1000000; omega, by show n ≤ 900000; omega⟩
  | 1, _ => rw [e1]; exact ⟨by show 1 + 1 ≤ 1000000; omega, by show m ≤ 900000; omega⟩
  | 2, _ => rw [e2]; exact ⟨by show 2 + 1 ≤ 1000000; omega, by show kw ≤ 900000; omega⟩
 have hperm : LL.Perm (xEa (fun j => blkE (at5 (some g1) (some g2) gw none none j) (at5 cur1 cur2 cw [] [] j)) 3 ++ RR) := by
  have key : LL.Perm (((([] ++ [(g1, Obj.cells cur1.toArray 24)]) ++ [(g2, Obj.cells cur2.toArray 24)]) ++ blkE gw cw) ++ RR) := by
   rw [← hbw, hLL, hRR]
   refine perm_blocks fun y => ?_
   simp only [List.count_append, List.count_cons, List.count_nil]
   omega
  exact key
 have kb0 : GrHOk ⟨none, 0, []⟩ 0 E5 := .inl ⟨rfl, rfl⟩
 replace e0 := Held.mk e0
 replace e1 := Held.mk e1
 replace e2 := Held.mk e2
 replace hent := Held.mk hent
 replace hk5 := Held.mk hk5
 replace hperm := Held.mk hperm
 replace kb0 := Held.mk kb0
 clear hbw hew hE5 hLL hRR xYw xXw mg1 mg2 cW dW cC dC hXw hYw ho1 ho2 S1 S2 n60 m60 lkw lFw
 go_wp2_with (first | go_skip | (refine' wpList_buildE rfl rfl build_book ?_) | (refine' aAq hR ?_; clear hR; intro blk w hR) | (refine' aBq hR ?_; clear hR; intro blk w hR) | (refine' aPq hR ?_) | (refine' aQq hR ?_) | (refine' aRq hR ?_) | (refine' aZq hR ?_; clear hR; intro w hR) | (refine' aAr hR ?_; clear hR; intro w hR) | (refine' aEr hR ?_) | (refine' aFr hR ?_) | (refine' aHr hR ?_) | (go_at_call 14; refine (cS1 _ hR).mono ?_; clear hR cS1; rintro e w ⟨rfl, hR⟩) | (go_at_call 15; refine (cL1 _ hR).mono ?_; clear hR cL1; rintro e w ⟨rfl, hR⟩) | (go_at_call 15; refine (cL2 _ hR).mono ?_; clear hR cL2; rintro e w ⟨rfl, hR⟩) | (go_at_call 16; refine (book_nums (E := E5) (x := ⟨none, 0, []⟩) (m := 0) (N := 0) (R := LL) kb0.out (by decide) (by decide) e0.out hR).mono ?_; clear hR; rintro e w ⟨rfl, x1, hx1, hR⟩; replace hx1 := Held.mk hx1) | (go_at_call 16; refine (book_nums (E := E5) (x := x1) (m := 1) (N := 1) (R := LL) hx1.out (by decide) (by decide) e1.out hR).mono ?_; clear hR; rintro e w ⟨rfl, x2, hx2, hR⟩; replace hx2 := Held.mk hx2) | (go_at_call 16; refine (book_nums (E := E5) (x := x2) (m := 2) (N := 2) (R := LL) hx2.out (by decide) (by decide) e2.out hR).mono ?_; clear hR; rintro e w ⟨rfl, x3, hx3, hR⟩; replace hx3 := Held.mk hx3) | (go_at_call 17; refine (book_apart (E := E5) (L := LL) (R := RR) hx3.out (by decide) (by decide) hk5.out hent.out hperm.out hR).mono ?_; clear hR; rintro e w ⟨rfl, hR⟩))
 go_ret
 exact ⟨rfl, hR.below⟩
end Go.Proofs.YtaaahfjpnggkbaaGreatDoor
