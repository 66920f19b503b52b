/- The walk of balefirelaw10.PolysOf. -/
import Derived.Test.YtaaahfjpnggkbaaGreatDoorPPolU
import Derived.Test.YtaaahfjpnggkbaaGreatDoorPR
set_option linter.unusedVariables false
set_option linter.unusedSimpArgs false
namespace Go.Proofs.YtaaahfjpnggkbaaGreatDoor
open Go.RowKit
attribute [local irreducible] Calls Instr.build Instr.buildSlice
noncomputable def gvL (a : Option Addr) (n ca : Nat) (b : Option Addr) (m cb : Nat) (c : Option Addr) (k cc x : Nat) : List Value := [.slice a n ca, .slice b m cb, .slice c k cc, .int .u64 (wd x 0), .int .u64 (wd x 1), .int .u64 (wd x 2), .int .u64 (wd x 3)]
instance rowGiv : RowT Tryz.prog 29 7 := .mk' (by kernel_rfl) (by kernel_rfl)
section
variable {a b c : Option Addr} {n ca m cb k cc x : Nat}
theorem gv_0 : (gvL a n ca b m cb c k cc x)[0]? = some (.slice a n ca) := rfl
theorem gv_1 : (gvL a n ca b m cb c k cc x)[1]? = some (.slice b m cb) := rfl
theorem gv_2 : (gvL a n ca b m cb c k cc x)[2]? = some (.slice c k cc) := rfl
theorem gv_x : ((gvL a n ca b m cb c k cc x).drop 3).take 4 = nl x := rfl
theorem great_any (s : Bool) (hn : n ≤ 4398046511104) (hm : m ≤ 4398046511104) (hk : k ≤ 4398046511104) (hs : s = true ↔ 60 < n + m + k) (w : World) : Calls Tryz.prog 6 #[.agg (gvL a n ca b m cb c k cc x).toArray] w fun e w' => e = .returned (.bool s) ∧ Below w.heap.size w w' := by
  have t0 := gv_0 (a := a) (n := n) (ca := ca) (b := b) (m := m) (cb := cb) (c := c) (k := k) (cc := cc) (x := x)
  have t1 := gv_1 (a := a) (n := n) (ca := ca) (b := b) (m := m) (cb := cb) (c := c) (k := k) (cc := cc) (x := x)
  have t2 := gv_2 (a := a) (n := n) (ca := ca) (b := b) (m := m) (cb := cb) (c := c) (k := k) (cc := cc) (x := x)
  have hR := Rep.init w
  obtain ⟨s1, hs1⟩ : ∃ s1 : Nat, s1 = n + m := ⟨_, rfl⟩
  obtain ⟨s2, hs2⟩ : ∃ s2 : Nat, s2 = s1 + k := ⟨_, rfl⟩
  have e1 : IntKind.i64.wrap ((n : Int) + (m : Int)) = (s1 : Int) := by rw [IntKind.wrap_i64]; omega
  have e2 : IntKind.i64.wrap ((s1 : Int) + (k : Int)) = (s2 : Int) := by rw [IntKind.wrap_i64]; omega
  have hs' : s = true ↔ 60 < s2 := by rw [hs, hs2, hs1]
  cases s
  · have d1 : ¬ 60 < (s2 : Int) := fun h => absurd (hs'.2 (by omega)) (by decide)
    have d2 : decide (60 < (s2 : Int)) = false := decide_eq_false d1
    clear hs hs' hn hm hk hs1 hs2
    go_enter Tryz.func6, Tryz.ntmps6
    go_wp2_with (first | go_skip | (refine' xAb (l := gvL a n ca b m cb c k cc x) hR rfl rfl rfl ?_; clear hR; intro bz w hR) | (refine' xAb hR rfl rfl rfl ?_; clear hR; intro blk w hR) | (refine' xAa hR rfl rfl inferInstance ?_; clear hR; intro blk w hR) | (refine' aNq hR rfl rfl rfl ?_) | (refine' aOq hR rfl rfl rfl ?_) | (refine' aPq hR rfl rfl rfl ?_) | (refine' aWq hR rfl rfl rfl rfl ?_; clear hR; intro w hR) | (refine' aXq hR rfl rfl rfl rfl rfl ?_; clear hR; intro w hR) | (refine' xAp hR rfl rfl rfl inferInstance ?hm ?hn ?_; (case hm => first | with_reducible assumption | repeat (first | exact .head _ | with_reducible assumption | apply mC)); (case hn => first | rfl | simp)) | (refine' xAo hR rfl rfl rfl inferInstance ?hm ?hv ?_; (case hm => first | with_reducible assumption | repeat (first | exact .head _ | with_reducible assumption | apply mC)); (case hv => first | rfl | with_reducible assumption)) | (refine' xAx hR rfl rfl rfl inferInstance ?hm ?hv ?hn ?_; (case hm => first | with_reducible assumption | repeat (first | exact .head _ | with_reducible assumption | apply mC)); (case hv => first | with_reducible assumption | (simp only [kC, kD, kE, kF]; try rfl)); (case hn => first | rfl | simp)))
    go_ret
    exact ⟨rfl, hR.below⟩
  · have d1 : 60 < (s2 : Int) := by have := hs'.1 rfl; omega
    have d2 : decide (60 < (s2 : Int)) = true := decide_eq_true d1
    clear hs hs' hn hm hk hs1 hs2
    go_enter Tryz.func6, Tryz.ntmps6
    go_wp2_with (first | go_skip | (refine' xAb (l := gvL a n ca b m cb c k cc x) hR rfl rfl rfl ?_; clear hR; intro bz w hR) | (refine' xAb hR rfl rfl rfl ?_; clear hR; intro blk w hR) | (refine' xAa hR rfl rfl inferInstance ?_; clear hR; intro blk w hR) | (refine' aNq hR rfl rfl rfl ?_) | (refine' aOq hR rfl rfl rfl ?_) | (refine' aPq hR rfl rfl rfl ?_) | (refine' aWq hR rfl rfl rfl rfl ?_; clear hR; intro w hR) | (refine' aXq hR rfl rfl rfl rfl rfl ?_; clear hR; intro w hR) | (refine' xAp hR rfl rfl rfl inferInstance ?hm ?hn ?_; (case hm => first | with_reducible assumption | repeat (first | exact .head _ | with_reducible assumption | apply mC)); (case hn => first | rfl | simp)) | (refine' xAo hR rfl rfl rfl inferInstance ?hm ?hv ?_; (case hm => first | with_reducible assumption | repeat (first | exact .head _ | with_reducible assumption | apply mC)); (case hv => first | rfl | with_reducible assumption)) | (refine' xAx hR rfl rfl rfl inferInstance ?hm ?hv ?hn ?_; (case hm => first | with_reducible assumption | repeat (first | exact .head _ | with_reducible assumption | apply mC)); (case hv => first | with_reducible assumption | (simp only [kC, kD, kE, kF]; try rfl)); (case hn => first | rfl | simp)))
    go_ret
    exact ⟨rfl, hR.below⟩
end
set_option maxRecDepth 100000 in
set_option maxHeartbeats 16000000 in
set_option maxRecDepth 100000 in
theorem polysof_walk (W : World) (p q g h : Nat) (hp : p < B) (hq : q < B) (hg : g < B) (hh : h < B) (a : Option Addr) (n ca : Nat) (f : Nat → Nat) (b : Option Addr) (m cb : Nat) (V : Nat → Nat) (c : Option Addr) (k cc : Nat) (P : Nat → Nat) (x : Nat) (S1 : NAt W.heap.size W [] a n ca f) (S2 : NAt W.heap.size W [] b m cb V) (S3 : NAt W.heap.size W [] c k cc P) (hx : x < B) (b1 : n ≤ 4398046511104) (b2 : m ≤ 4398046511104) (b3 : k ≤ 4398046511104) :
    Calls Tryz.prog 3 #[grp p q g h, .agg (gvL a n ca b m cb c k cc x).toArray] W fun e w' => e = .returned (.bool true) ∧ Below W.heap.size W w' := by
  classical
  have hR := Rep.init W
  by_cases hgr : 60 < n + m + k
  case pos =>
    have cg := fun w => great_any (a := a) (n := n) (ca := ca) (b := b) (m := m) (cb := cb) (c := c) (k := k) (cc := cc) (x := x) true (by omega) (by omega) (by omega) ⟨fun _ => hgr, fun _ => rfl⟩ w
    clear S1 S2 S3 hp hq hg hh hgr b1 b2 b3 hx
    go_enter Tryz.func3, Tryz.ntmps3
    go_wp2_with (first | go_skip | (refine' xAb (l := gvL a n ca b m cb c k cc x) hR rfl rfl rfl ?_; clear hR; intro bz w hR) | (refine' xAb hR rfl rfl rfl ?_; clear hR; intro blk w hR) | (refine' xAa hR rfl rfl inferInstance ?_; clear hR; intro blk w hR) | (refine' aNq hR rfl rfl rfl ?_) | (refine' aOq hR rfl rfl rfl ?_) | (refine' aPq hR rfl rfl rfl ?_) | (refine' aWq hR rfl rfl rfl rfl ?_; clear hR; intro w hR) | (refine' aXq hR rfl rfl rfl rfl rfl ?_; clear hR; intro w hR) | (refine' xAp hR rfl rfl rfl inferInstance ?hm ?hn ?_; (case hm => first | with_reducible assumption | repeat (first | exact .head _ | with_reducible assumption | apply mC)); (case hn => first | rfl | simp)) | (refine' xAo hR rfl rfl rfl inferInstance ?hm ?hv ?_; (case hm => first | with_reducible assumption | repeat (first | exact .head _ | with_reducible assumption | apply mC)); (case hv => first | rfl | with_reducible assumption)) | (refine' xAx hR rfl rfl rfl inferInstance ?hm ?hv ?hn ?_; (case hm => first | with_reducible assumption | repeat (first | exact .head _ | with_reducible assumption | apply mC)); (case hv => first | with_reducible assumption | (simp only [kC, kD, kE, kF]; try rfl)); (case hn => first | rfl | simp)) | (go_at_call 6; refine (cg _).mono ?_; rintro e w ⟨rfl, hb⟩; replace hR := hR.call hb; clear hb))
    go_ret
    exact ⟨rfl, hR.below⟩
  have cg := fun w => great_any (a := a) (n := n) (ca := ca) (b := b) (m := m) (cb := cb) (c := c) (k := k) (cc := cc) (x := x) false (by omega) (by omega) (by omega) ⟨fun h => (nomatch h), fun h => absurd h hgr⟩ w
  have n60 : n ≤ 1000 := by omega
  have m60 : m ≤ 1000 := by omega
  have k60 : k ≤ 1000 := by omega
  obtain ⟨rv, er, lrv, cA, dA⟩ := uni_at (B0 := W.heap.size) (w0 := W) (p := p) (q := q) (g := g) (h := h) (n := k) (f := P) (x := x) hp hq hx k60
  obtain ⟨kw, ew, Fw, lkw, lFw, cW, dW⟩ := uni_weights (B0 := W.heap.size) (w0 := W) (p := p) (q := q) (g := g) (h := h) (n := n) (f := f) (x := x) hp hq hx n60
  obtain ⟨kt, et, Ft, lkt, lFt, cT, dT⟩ := uni_through (B0 := W.heap.size) (w0 := W) (p := p) (q := q) (g := g) (h := h) (n := n) (m := m) (f := f) (V := V) hp hq n60 m60
  have t0 := gv_0 (a := a) (n := n) (ca := ca) (b := b) (m := m) (cb := cb) (c := c) (k := k) (cc := cc) (x := x)
  have t1 := gv_1 (a := a) (n := n) (ca := ca) (b := b) (m := m) (cb := cb) (c := c) (k := k) (cc := cc) (x := x)
  have t2 := gv_2 (a := a) (n := n) (ca := ca) (b := b) (m := m) (cb := cb) (c := c) (k := k) (cc := cc) (x := x)
  have tx := gv_x (a := a) (n := n) (ca := ca) (b := b) (m := m) (cb := cb) (c := c) (k := k) (cc := cc) (x := x)
  have es := xCs rv
  have w1 := fun (L : List (Nat × Obj)) (w : World) (hw : Rep W.heap.size W L w) => twin_nums (S1.any (L := L)) n60 hw
  have w2 := fun (L : List (Nat × Obj)) (w : World) (hw : Rep W.heap.size W L w) => twin_nums (S2.any (L := L)) m60 hw
  have w3 := fun (L : List (Nat × Obj)) (w : World) (hw : Rep W.heap.size W L w) => twin_nums (S3.any (L := L)) k60 hw
  replace S1 := Held.mk S1
  replace S2 := Held.mk S2
  replace S3 := Held.mk S3
  replace n60 := Held.mk n60
  replace m60 := Held.mk m60
  replace k60 := Held.mk k60
  replace lkw := Held.mk lkw
  replace lkt := Held.mk lkt
  replace lFw := Held.mk lFw
  replace lFt := Held.mk lFt
  replace lrv := Held.mk lrv
  replace cA := Held.mk @cA
  replace dA := Held.mk @dA
  replace cW := Held.mk @cW
  replace dW := Held.mk @dW
  replace cT := Held.mk @cT
  replace dT := Held.mk @dT
  clear hg hh hgr b1 b2 b3 hx hp hq
  go_enter Tryz.func3, Tryz.ntmps3
  go_wp2_with (first | go_skip | (refine' xAb (l := gl p q g h) hR rfl rfl rfl ?_; clear hR; intro bg w hR) | (refine' xAb (l := gvL a n ca b m cb c k cc x) hR rfl rfl rfl ?_; clear hR; intro bz w hR) | (refine' xAb hR rfl rfl rfl ?_; clear hR; intro blk w hR) | (refine' xAa hR rfl rfl inferInstance ?_; clear hR; intro blk w hR) | (refine' aNq hR rfl rfl rfl ?_) | (refine' aOq hR rfl rfl rfl ?_) | (refine' aPq hR rfl rfl rfl ?_) | (refine' aWq hR rfl rfl rfl rfl ?_; clear hR; intro w hR) | (refine' aXq hR rfl rfl rfl rfl rfl ?_; clear hR; intro w hR) | (refine' xAp hR rfl rfl rfl inferInstance ?hm ?hn ?_; (case hm => first | with_reducible assumption | repeat (first | exact .head _ | with_reducible assumption | apply mC)); (case hn => first | rfl | simp)) | (refine' xAo hR rfl rfl rfl inferInstance ?hm ?hv ?_; (case hm => first | with_reducible assumption | repeat (first | exact .head _ | with_reducible assumption | apply mC)); (case hv => first | rfl | with_reducible assumption)) | (refine' xAx hR rfl rfl rfl inferInstance ?hm ?hv ?hn ?_; (case hm => first | with_reducible assumption | repeat (first | exact .head _ | with_reducible assumption | apply mC)); (case hv => first | with_reducible assumption | (simp only [kC, kD, kE, kF]; try rfl)); (case hn => first | rfl | simp)) | (go_at_call 6; refine (cg _).mono ?_; rintro e w ⟨rfl, hb⟩; replace hR := hR.call hb; clear hb) | (go_at_call 7; refine (w1 _ _ hR).mono ?_; clear hR w1; rintro e w ⟨g1, p1, rfl, cur1, ho1, hR⟩; replace ho1 := Held.mk ho1) | (go_at_call 7; refine (w2 _ _ hR).mono ?_; clear hR w2; rintro e w ⟨g2, p2, rfl, cur2, ho2, hR⟩; replace ho2 := Held.mk ho2) | (go_at_call 7; refine (w3 _ _ hR).mono ?_; clear hR w3; rintro e w ⟨g3, p3, rfl, cur3, ho3, hR⟩; replace ho3 := Held.mk ho3) | (go_at_call 8; refine (cA.out (twin_nat ho3.out (by repeat (first | exact .head _ | with_reducible assumption | apply mC)) S3.out.lt) hR).mono ?_; clear hR; rintro e w ⟨rfl, hR⟩) | (go_at_call 9; refine (cW.out (twin_nat ho1.out (by repeat (first | exact .head _ | with_reducible assumption | apply mC)) S1.out.lt) hR).mono ?_; clear hR; rintro e w ⟨Xw, rfl, hXw, hR⟩; replace hR := hR.permN (List.perm_append_comm_assoc Xw.bl [_, _, _, _, _, _] []); simp only [List.cons_append, List.nil_append] at hR; replace hXw := Held.mk hXw) | (go_at_call 10; refine (cT.out (twin_nat ho1.out (by repeat (first | exact .head _ | with_reducible assumption | apply mC)) S1.out.lt) (twin_nat ho2.out (by repeat (first | exact .head _ | with_reducible assumption | apply mC)) S2.out.lt) hR).mono ?_; clear hR; rintro e w ⟨Xt, rfl, hXt, hR⟩; replace hR := hR.permN (List.perm_append_comm_assoc Xt.bl [_, _, _, _, _, _] _); simp only [List.cons_append, List.nil_append] at hR; replace hXt := Held.mk hXt) | (go_at_call 11; refine (dA.out S3.out.any hR).mono ?_; clear hR; rintro e w ⟨rfl, hR⟩) | (go_at_call 12; refine (dW.out S1.out hR).mono ?_; clear hR; rintro e w ⟨Yw, rfl, hYw, hR⟩; replace hR := hR.permN (List.perm_append_comm_assoc Yw.bl [_, _, _, _, _, _, _] _); simp only [List.cons_append, List.nil_append] at hR; replace hYw := Held.mk hYw) | (go_at_call 13; refine (dT.out S1.out S2.out hR).mono ?_; clear hR; rintro e w ⟨Yt, rfl, hYt, hR⟩; replace hR := hR.permN (List.perm_append_comm_assoc Yt.bl [_, _, _, _, _, _, _] _); simp only [List.cons_append, List.nil_append] at hR; replace hYt := Held.mk hYt))
  obtain ⟨c14, hc14⟩ : ∃ z, z = blk := ⟨_, rfl⟩
  subst hc14
  obtain ⟨c8, hc8⟩ : ∃ z, z = blk := ⟨_, rfl⟩
  subst hc8
  obtain ⟨RR, hRR⟩ : ∃ RR, RR = (c14, Obj.cells (nl rv).toArray 24) :: (c8, Obj.cells (nl rv).toArray 24) :: (bz, Obj.cells (gvL a n ca b m cb c k cc x).toArray 29) :: (bg, Obj.cells (gl p q g h).toArray 26) :: (Yt.bl ++ Yw.bl) := ⟨_, rfl⟩
  obtain ⟨LL, hLL⟩ : ∃ LL, LL = (c14, Obj.cells (nl rv).toArray 24) :: (c8, Obj.cells (nl rv).toArray 24) :: (g3, Obj.cells cur3.toArray 24) :: (g2, Obj.cells cur2.toArray 24) :: (g1, Obj.cells cur1.toArray 24) :: (bz, Obj.cells (gvL a n ca b m cb c k cc x).toArray 29) :: (bg, Obj.cells (gl p q g h).toArray 26) :: (Yt.bl ++ (Yw.bl ++ (Xt.bl ++ (Xw.bl ++ [])))) := ⟨_, rfl⟩
  replace hR : Rep W.heap.size W LL w := by rw [hLL]; exact hR
  obtain ⟨gw, cw, hew, hbw⟩ := grn_ent 4 hXw.out
  obtain ⟨gt, ct, het, hbt⟩ := grn_ent 5 hXt.out
  have mz : (bz, Obj.cells (gvL a n ca b m cb c k cc x).toArray 29) ∈ LL := by rw [hLL]; repeat (first | exact .head _ | with_reducible assumption | apply mC)
  have mg1 : (g1, Obj.cells cur1.toArray 24) ∈ LL := by rw [hLL]; repeat (first | exact .head _ | with_reducible assumption | apply mC)
  have mg2 : (g2, Obj.cells cur2.toArray 24) ∈ LL := by rw [hLL]; repeat (first | exact .head _ | with_reducible assumption | apply mC)
  have mg3 : (g3, Obj.cells cur3.toArray 24) ∈ LL := by rw [hLL]; repeat (first | exact .head _ | with_reducible assumption | apply mC)
  have xYt : ∀ p, p ∈ Yt.bl → p ∈ LL := fun p hp => by rw [hLL]; exact .tail _ (.tail _ (.tail _ (.tail _ (.tail _ (.tail _ (.tail _ (List.mem_append_left _ hp)))))))
  have xYw : ∀ p, p ∈ Yw.bl → p ∈ LL := fun p hp => by rw [hLL]; exact .tail _ (.tail _ (.tail _ (.tail _ (.tail _ (.tail _ (.tail _ (List.mem_append_right _ (List.mem_append_left _ hp))))))))
  have xXt : ∀ p, p ∈ Xt.bl → p ∈ LL := fun p hp => by rw [hLL]; exact .tail _ (.tail _ (.tail _ (.tail _ (.tail _ (.tail _ (.tail _ (List.mem_append_right _ (List.mem_append_right _ (List.mem_append_left _ hp)))))))))
  have xXw : ∀ p, p ∈ Xw.bl → p ∈ LL := fun p hp => by rw [hLL]; exact .tail _ (.tail _ (.tail _ (.tail _ (.tail _ (.tail _ (.tail _ (List.mem_append_right _ (List.mem_append_right _ (List.mem_append_right _ (List.mem_append_left _ hp))))))))))
  have cS1 := fun (w : World) (hw : Rep W.heap.size W LL w) => same_nums (grN_nat hXw.out lFw.out xXw) (grN_nat hYw.out lFw.out xYw) lkw.out true ⟨fun _ => ⟨rfl, fun _ _ => rfl⟩, fun _ => rfl⟩ hw
  have cS2 := fun (w : World) (hw : Rep W.heap.size W LL w) => same_nums (grN_nat hXt.out lFt.out xXt) (grN_nat hYt.out lFt.out xYt) lkt.out true ⟨fun _ => ⟨rfl, fun _ _ => rfl⟩, fun _ => rfl⟩ hw
  have cL1 := fun (w : World) (hw : Rep W.heap.size W LL w) => left_nums ho1.out mg1 (S1.out.any (L := LL)) n60.out hw
  have cL2 := fun (w : World) (hw : Rep W.heap.size W LL w) => left_nums ho2.out mg2 (S2.out.any (L := LL)) m60.out hw
  have cL3 := fun (w : World) (hw : Rep W.heap.size W LL w) => left_nums ho3.out mg3 (S3.out.any (L := LL)) k60.out hw
  obtain ⟨E5, hE5⟩ : ∃ E, E = at5 (Ent.mk (some ⟨g1, 0, none⟩) n p1 none 0 0 1) (Ent.mk (some ⟨g2, 0, none⟩) m p2 none 0 0 2) (Ent.mk (some ⟨g3, 0, none⟩) k p3 none 0 0 3) (Ent.mk Xw.a kw Xw.cap none 0 0 4) (Ent.mk Xt.a kt Xt.cap none 0 0 5) := ⟨_, rfl⟩
  have e0 : E5 0 = ⟨some ⟨g1, 0, none⟩, n, p1, none, 0, 0, 0 + 1⟩ := by rw [hE5]; rfl
  have e1 : E5 1 = ⟨some ⟨g2, 0, none⟩, m, p2, none, 0, 0, 1 + 1⟩ := by rw [hE5]; rfl
  have e2 : E5 2 = ⟨some ⟨g3, 0, none⟩, k, p3, none, 0, 0, 2 + 1⟩ := by rw [hE5]; rfl
  have e3 : E5 3 = ⟨Xw.a, kw, Xw.cap, none, 0, 0, 3 + 1⟩ := by rw [hE5]; rfl
  have e4 : E5 4 = ⟨Xt.a, kt, Xt.cap, none, 0, 0, 4 + 1⟩ := by rw [hE5]; rfl
  have hent : ∀ j, j < 5 → EntOk (E5 j) (at5 (some g1) (some g2) (some g3) gw gt j) (at5 cur1 cur2 cur3 cw ct j) (at5 (twN f n) (twN V m) (twN P k) Fw Ft j) := fun j hj => by
    rw [hE5]
    match j, hj with
    | 0, _ => exact twin_ent ho1.out
    | 1, _ => exact twin_ent ho2.out
    | 2, _ => exact twin_ent ho3.out
    | 3, _ => exact hew
    | 4, _ => exact het
  have hk5 : ∀ j, j < 5 → (E5 j).k ≤ 1000000 ∧ (E5 j).n ≤ 900000 := fun j hj => by
    have a1 := n60.out; have a2 := m60.out; have a3 := k60.out; have a4 := lkw.out; have a5 := lkt.out
    match j, hj with
    | 0, _ => rw [e0]; exact ⟨by show 0 + 1 ≤ 1000000; omega, by show n ≤ 900000; omega⟩
    | 1, _ => rw [e1]; exact ⟨by show 1 + 1 ≤ 1000000; omega, by show m ≤ 900000; omega⟩
    | 2, _ => rw [e2]; exact ⟨by show 2 + 1 ≤ 1000000; omega, by show k ≤ 900000; omega⟩
    | 3, _ => rw [e3]; exact ⟨by show 3 + 1 ≤ 1000000; omega, by show kw ≤ 900000; omega⟩
    | 4, _ => rw [e4]; exact ⟨by show 4 + 1 ≤ 1000000; omega, by show kt ≤ 900000; omega⟩
  have hperm : LL.Perm (blksB (fun j => blkE (at5 (some g1) (some g2) (some g3) gw gt j) (at5 cur1 cur2 cur3 cw ct j)) 5 ++ RR) := by
    have key : LL.Perm (((((([] ++ [(g1, Obj.cells cur1.toArray 24)]) ++ [(g2, Obj.cells cur2.toArray 24)]) ++ [(g3, Obj.cells cur3.toArray 24)]) ++ blkE gw cw) ++ blkE gt ct) ++ RR) := by
      rw [← hbw, ← hbt, hLL, hRR]
      refine perm_blocks fun y => ?_
      simp only [List.count_append, List.count_cons, List.count_nil]
      omega
    exact key
  have kb0 : GrHOk ⟨none, 0, []⟩ 0 E5 := .inl ⟨rfl, rfl⟩
  replace e0 := Held.mk e0
  replace e1 := Held.mk e1
  replace e2 := Held.mk e2
  replace e3 := Held.mk e3
  replace e4 := Held.mk e4
  replace hent := Held.mk hent
  replace hk5 := Held.mk hk5
  replace hperm := Held.mk hperm
  replace kb0 := Held.mk kb0
  clear hbw hbt hew het hE5 hLL hRR xYt xYw xXt xXw mg1 mg2 mg3 cA dA cW dW cT dT hXw hXt hYw hYt ho1 ho2 ho3 S1 S2 S3 n60 m60 k60 lkw lkt lFw lFt lrv
  go_wp2_with (first | go_skip | (refine' wpList_buildE rfl rfl build_book ?_) | (refine' xAb hR rfl rfl rfl ?_; clear hR; intro blk w hR) | (refine' xAa hR rfl rfl inferInstance ?_; clear hR; intro blk w hR) | (refine' aNq hR rfl rfl rfl ?_) | (refine' aOq hR rfl rfl rfl ?_) | (refine' aPq hR rfl rfl rfl ?_) | (refine' aWq hR rfl rfl rfl rfl ?_; clear hR; intro w hR) | (refine' aXq hR rfl rfl rfl rfl rfl ?_; clear hR; intro w hR) | (refine' xAp hR rfl rfl rfl inferInstance ?hm ?hn ?_; (case hm => first | with_reducible assumption | repeat (first | exact .head _ | with_reducible assumption | apply mC)); (case hn => first | rfl | simp)) | (refine' xAo hR rfl rfl rfl inferInstance ?hm ?hv ?_; (case hm => first | with_reducible assumption | repeat (first | exact .head _ | with_reducible assumption | apply mC)); (case hv => first | rfl | with_reducible assumption)) | (refine' xAx hR rfl rfl rfl inferInstance ?hm ?hv ?hn ?_; (case hm => first | with_reducible assumption | repeat (first | exact .head _ | with_reducible assumption | apply mC)); (case hv => first | with_reducible assumption | (simp only [kC, kD, kE, kF]; try rfl)); (case hn => first | rfl | simp)) | (go_at_call 14; refine (cS1 _ hR).mono ?_; clear hR cS1; rintro e w ⟨rfl, hR⟩) | (go_at_call 14; refine (cS2 _ hR).mono ?_; clear hR cS2; rintro e w ⟨rfl, hR⟩) | (go_at_call 15; refine (cL1 _ hR).mono ?_; clear hR cL1; rintro e w ⟨rfl, hR⟩) | (go_at_call 15; refine (cL2 _ hR).mono ?_; clear hR cL2; rintro e w ⟨rfl, hR⟩) | (go_at_call 15; refine (cL3 _ hR).mono ?_; clear hR cL3; rintro e w ⟨rfl, hR⟩) | (go_at_call 16; refine (book_nums (E := E5) (x := ⟨none, 0, []⟩) (m := 0) (N := 0) (R := LL) kb0.out (by decide) (by decide) e0.out hR).mono ?_; clear hR; rintro e w ⟨rfl, x1, hx1, hR⟩; replace hx1 := Held.mk hx1) | (go_at_call 16; refine (book_nums (E := E5) (x := x1) (m := 1) (N := 1) (R := LL) hx1.out (by decide) (by decide) e1.out hR).mono ?_; clear hR; rintro e w ⟨rfl, x2, hx2, hR⟩; replace hx2 := Held.mk hx2) | (go_at_call 16; refine (book_nums (E := E5) (x := x2) (m := 2) (N := 2) (R := LL) hx2.out (by decide) (by decide) e2.out hR).mono ?_; clear hR; rintro e w ⟨rfl, x3, hx3, hR⟩; replace hx3 := Held.mk hx3) | (go_at_call 16; refine (book_nums (E := E5) (x := x3) (m := 3) (N := 3) (R := LL) hx3.out (by decide) (by decide) e3.out hR).mono ?_; clear hR; rintro e w ⟨rfl, x4, hx4, hR⟩; replace hx4 := Held.mk hx4) | (go_at_call 16; refine (book_nums (E := E5) (x := x4) (m := 4) (N := 4) (R := LL) hx4.out (by decide) (by decide) e4.out hR).mono ?_; clear hR; rintro e w ⟨rfl, x5, hx5, hR⟩; replace hx5 := Held.mk hx5) | (go_at_call 17; refine (book_apart (E := E5) (L := LL) (R := RR) hx5.out (by decide) (by decide) hk5.out hent.out hperm.out hR).mono ?_; clear hR; rintro e w ⟨rfl, hR⟩))
  go_ret
  exact ⟨rfl, hR.below⟩
end Go.Proofs.YtaaahfjpnggkbaaGreatDoor
