import Derived.Test.YtaaahfjpnggkbaaGreatDoorHXN
import Derived.Test.YtaaahfjpnggkbaaGreatDoorHShAll
import Derived.Test.YtaaahfjpnggkbaaGreatDoorHR
set_option linter.unusedSimpArgs false
set_option linter.unusedVariables false
set_option maxRecDepth 100000
set_option maxHeartbeats 20000000
namespace Go.Proofs.YtaaahfjpnggkbaaGreatDoor
open Go.RowKit
attribute [local irreducible] Calls Instr.build Instr.buildSlice Instr.makeSlice
noncomputable def gvS (a : Option Addr) (n ca : Nat) (z : Int) (b : Option Addr) (m cb : Nat) (c : Option Addr) (k cc : Nat) : List Value := [.slice a n ca, .int .i64 z, .slice b m cb, .slice c k cc]
instance rowGivS : RowT Tryz.prog 69 4 := .mk' (by kernel_rfl) (by kernel_rfl)
section
variable {a b c : Option Addr} {n ca m cb k cc : Nat} {z : Int}
theorem gs_0 : (gvS a n ca z b m cb c k cc)[0]? = some (.slice a n ca) := rfl
theorem gs_1 : (gvS a n ca z b m cb c k cc)[1]? = some (.int .i64 z) := rfl
theorem gs_2 : (gvS a n ca z b m cb c k cc)[2]? = some (.slice b m cb) := rfl
theorem gs_3 : (gvS a n ca z b m cb c k cc)[3]? = some (.slice c k cc) := rfl
end
theorem sharesof_walk (W : World) (p q g h : Nat) (hp : p < B) (hq : q < B) (hg : g < B) (hh : h < B) (a : Option Addr) (n ca : Nat) (f : Nat → Nat) (z : Int) (b : Option Addr) (m cb : Nat) (A : Nat → Int) (c : Option Addr) (k cc : Nat) (P : Nat → Nat) (S1 : NAt W.heap.size W [] a n ca f) (S2 : IAt W.heap.size W [] b m cb A) (S3 : NAt W.heap.size W [] c k cc P) :
  Calls Tryz.prog 5 #[grp p q g h, .agg (gvS a n ca z b m cb c k cc).toArray] W fun e w' => e = .returned (.bool true) ∧ Below W.heap.size W w' := by
 classical
 have hR := Rep.init W
 have t0 := gs_0 (a := a) (n := n) (ca := ca) (z := z) (b := b) (m := m) (cb := cb) (c := c) (k := k) (cc := cc)
 have t1 := gs_1 (a := a) (n := n) (ca := ca) (z := z) (b := b) (m := m) (cb := cb) (c := c) (k := k) (cc := cc)
 have t2 := gs_2 (a := a) (n := n) (ca := ca) (z := z) (b := b) (m := m) (cb := cb) (c := c) (k := k) (cc := cc)
 have t3 := gs_3 (a := a) (n := n) (ca := ca) (z := z) (b := b) (m := m) (cb := cb) (c := c) (k := k) (cc := cc)
 by_cases c1 : 100 < n
 case pos =>
  have u1 : 100 < (n : Int) := by omega
  have d1 : decide (100 < (n : Int)) = true := decide_eq_true u1
  clear S1 S2 S3 hp hq hg hh c1
  go_enter Tryz.func5, Tryz.ntmps5
  go_wp2_with (first | go_skip | (refine' xBx (l := gl p q g h) hR rfl rfl rfl ?_; clear hR; intro bg w hR) | (refine' xBx (l := gvS a n ca z b m cb c k cc) hR rfl rfl rfl ?_; clear hR; intro bz w hR) | (refine' aAq hR ?_; clear hR; intro blk w hR) | (refine' aBq hR ?_; clear hR; intro blk w hR) | (refine' aNq hR ?_) | (refine' aPq hR ?_) | (refine' aMq hR ?_) | (refine' aRq hR ?_; clear hR; intro w hR) | (refine' aUq hR ?_; clear hR; intro w hR) | (refine' aVq hR ?_) | (refine' aZq hR ?_) | (refine' aDr hR ?_))
  go_ret
  exact ⟨rfl, hR.below⟩
 have u1 : ¬ 100 < (n : Int) := by omega
 have d1 : decide (100 < (n : Int)) = false := decide_eq_false u1
 by_cases c2 : 100 < m
 case pos =>
  have u2 : 100 < (m : Int) := by omega
  have d2 : decide (100 < (m : Int)) = true := decide_eq_true u2
  clear S1 S2 S3 hp hq hg hh c1 c2
  go_enter Tryz.func5, Tryz.ntmps5
  go_wp2_with (first | go_skip | (refine' xBx (l := gl p q g h) hR rfl rfl rfl ?_; clear hR; intro bg w hR) | (refine' xBx (l := gvS a n ca z b m cb c k cc) hR rfl rfl rfl ?_; clear hR; intro bz w hR) | (refine' aAq hR ?_; clear hR; intro blk w hR) | (refine' aBq hR ?_; clear hR; intro blk w hR) | (refine' aNq hR ?_) | (refine' aPq hR ?_) | (refine' aMq hR ?_) | (refine' aRq hR ?_; clear hR; intro w hR) | (refine' aUq hR ?_; clear hR; intro w hR) | (refine' aVq hR ?_) | (refine' aZq hR ?_) | (refine' aDr hR ?_))
  go_ret
  exact ⟨rfl, hR.below⟩
 have u2 : ¬ 100 < (m : Int) := by omega
 have d2 : decide (100 < (m : Int)) = false := decide_eq_false u2
 by_cases c3 : 100 < k
 case pos =>
  have u3 : 100 < (k : Int) := by omega
  have d3 : decide (100 < (k : Int)) = true := decide_eq_true u3
  clear S1 S2 S3 hp hq hg hh c1 c2 c3
  go_enter Tryz.func5, Tryz.ntmps5
  go_wp2_with (first | go_skip | (refine' xBx (l := gl p q g h) hR rfl rfl rfl ?_; clear hR; intro bg w hR) | (refine' xBx (l := gvS a n ca z b m cb c k cc) hR rfl rfl rfl ?_; clear hR; intro bz w hR) | (refine' aAq hR ?_; clear hR; intro blk w hR) | (refine' aBq hR ?_; clear hR; intro blk w hR) | (refine' aNq hR ?_) | (refine' aPq hR ?_) | (refine' aMq hR ?_) | (refine' aRq hR ?_; clear hR; intro w hR) | (refine' aUq hR ?_; clear hR; intro w hR) | (refine' aVq hR ?_) | (refine' aZq hR ?_) | (refine' aDr hR ?_))
  go_ret
  exact ⟨rfl, hR.below⟩
 have u3 : ¬ 100 < (k : Int) := by omega
 have d3 : decide (100 < (k : Int)) = false := decide_eq_false u3
 have n60 : n ≤ 1000 := by omega
 have m60 : m ≤ 1000 := by omega
 have k60 : k ≤ 1000 := by omega
 obtain ⟨ko, eo, Fo, lko, lFo, cO, dO⟩ := uni_of (B0 := W.heap.size) (w0 := W) (p := p) (q := q) (g := g) (h := h) (n := n) (f := f) (k := z) hp hq n60
 obtain ⟨ks, es, Fs, lks, lFs, cS, dS⟩ := uni_sec (B0 := W.heap.size) (w0 := W) (p := p) (q := q) (g := g) (h := h) (n := n) (f := f) (k := z) hp hq n60
 obtain ⟨kr, er, Fr, lkr, lFr, cR, dR⟩ := uni_raise (B0 := W.heap.size) (w0 := W) (p := p) (q := q) (g := g) (h := h) (n := m) (m := k) (A := A) (Pw := P) (k := z) hp hq m60 k60 S3.lt
 have w1 := fun (L : List (Nat × Obj)) (w : World) (hw : Rep W.heap.size W L w) => twin_nums (S1.any (L := L)) n60 hw
 have wi := fun (L : List (Nat × Obj)) (w : World) (hw : Rep W.heap.size W L w) => twin_ints (S2.any (L := L)) m60 hw
 have w2 := fun (L : List (Nat × Obj)) (w : World) (hw : Rep W.heap.size W L w) => twin_nums (S3.any (L := L)) k60 hw
 replace S1 := Held.mk S1
 replace S2 := Held.mk S2
 replace S3 := Held.mk S3
 replace n60 := Held.mk n60
 replace m60 := Held.mk m60
 replace k60 := Held.mk k60
 replace lko := Held.mk lko
 replace lks := Held.mk lks
 replace lkr := Held.mk lkr
 replace lFo := Held.mk lFo
 replace lFs := Held.mk lFs
 replace lFr := Held.mk lFr
 replace cO := Held.mk @cO
 replace dO := Held.mk @dO
 replace cS := Held.mk @cS
 replace dS := Held.mk @dS
 replace cR := Held.mk @cR
 replace dR := Held.mk @dR
 clear hg hh c1 c2 c3 hp hq
 go_enter Tryz.func5, Tryz.ntmps5
 go_wp2_with (first | go_skip | (refine' xBx (l := gl p q g h) hR rfl rfl rfl ?_; clear hR; intro bg w hR) | (refine' xBx (l := gvS a n ca z b m cb c k cc) hR rfl rfl rfl ?_; clear hR; intro bz w hR) | (refine' aAq hR ?_; clear hR; intro blk w hR) | (refine' aBq hR ?_; clear hR; intro blk w hR) | (refine' aNq hR ?_) | (refine' aPq hR ?_) | (refine' aMq hR ?_) | (refine' aRq hR ?_; clear hR; intro w hR) | (refine' aUq hR ?_; clear hR; intro w hR) | (refine' aVq hR ?_) | (refine' aZq hR ?_) | (refine' aDr hR ?_) | (go_at_call 7; refine (w1 _ _ hR).mono ?_; clear hR w1; rintro e w ⟨g1, p1, rfl, cur1, ho1, hR⟩; replace ho1 := Held.mk ho1) | (go_at_call 22; refine (wi _ _ hR).mono ?_; clear hR wi; rintro e w ⟨gi, pi, rfl, curi, hoi, hR⟩; replace hoi := Held.mk hoi) | (go_at_call 7; refine (w2 _ _ hR).mono ?_; clear hR w2; rintro e w ⟨g2, p2, rfl, cur2, ho2, hR⟩; replace ho2 := Held.mk ho2) | (go_at_call 23; refine (cO.out (twin_nat ho1.out (by repeat (first | exact .head _ | with_reducible assumption | apply mC)) S1.out.lt) hR).mono ?_; clear hR; rintro e w ⟨Xo, rfl, hXo, hR⟩; replace hR := hR.permN (List.perm_append_comm_assoc Xo.bl [_, _, _, _, _] []); simp only [List.cons_append, List.nil_append] at hR; replace hXo := Held.mk hXo) | (go_at_call 24; refine (cS.out (twin_nat ho1.out (by repeat (first | exact .head _ | with_reducible assumption | apply mC)) S1.out.lt) hR).mono ?_; clear hR; rintro e w ⟨Xs, rfl, hXs, hR⟩; replace hR := hR.permN (List.perm_append_comm_assoc Xs.bl [_, _, _, _, _] _); simp only [List.cons_append, List.nil_append] at hR; replace hXs := Held.mk hXs) | (go_at_call 25; refine (cR.out (twin_iat hoi.out (by repeat (first | exact .head _ | with_reducible assumption | apply mC))) (twin_nat ho2.out (by repeat (first | exact .head _ | with_reducible assumption | apply mC)) S3.out.lt) hR).mono ?_; clear hR; rintro e w ⟨Xr, rfl, hXr, hR⟩; replace hR := hR.permN (List.perm_append_comm_assoc Xr.bl [_, _, _, _, _] _); simp only [List.cons_append, List.nil_append] at hR; replace hXr := Held.mk hXr) | (go_at_call 26; refine (dO.out S1.out hR).mono ?_; clear hR; rintro e w ⟨Yo, rfl, hYo, hR⟩; replace hR := hR.permN (List.perm_append_comm_assoc Yo.bl [_, _, _, _, _] _); simp only [List.cons_append, List.nil_append] at hR; replace hYo := Held.mk hYo) | (go_at_call 27; refine (dS.out S1.out hR).mono ?_; clear hR; rintro e w ⟨Ys, rfl, hYs, hR⟩; replace hR := hR.permN (List.perm_append_comm_assoc Ys.bl [_, _, _, _, _] _); simp only [List.cons_append, List.nil_append] at hR; replace hYs := Held.mk hYs) | (go_at_call 28; refine (dR.out S2.out S3.out hR).mono ?_; clear hR; rintro e w ⟨Yr, rfl, hYr, hR⟩; replace hR := hR.permN (List.perm_append_comm_assoc Yr.bl [_, _, _, _, _] _); simp only [List.cons_append, List.nil_append] at hR; replace hYr := Held.mk hYr))
 obtain ⟨RR, hRR⟩ : ∃ RR, RR = (bz, Obj.cells (gvS a n ca z b m cb c k cc).toArray 69) :: (bg, Obj.cells (gl p q g h).toArray 26) :: (Yr.bl ++ (Ys.bl ++ Yo.bl)) := ⟨_, rfl⟩
 obtain ⟨LL, hLL⟩ : ∃ LL, LL = (g2, Obj.cells cur2.toArray 24) :: (gi, Obj.cells curi.toArray 3) :: (g1, Obj.cells cur1.toArray 24) :: (bz, Obj.cells (gvS a n ca z b m cb c k cc).toArray 69) :: (bg, Obj.cells (gl p q g h).toArray 26) :: (Yr.bl ++ (Ys.bl ++ (Yo.bl ++ (Xr.bl ++ (Xs.bl ++ (Xo.bl ++ [])))))) := ⟨_, rfl⟩
 replace hR : Rep W.heap.size W LL w := by rw [hLL]; exact hR
 obtain ⟨go, co, heo, hbo⟩ := grn_ent 4 hXo.out
 obtain ⟨gs, cs, hes, hbs⟩ := grn_ent 5 hXs.out
 obtain ⟨gr, cr, her, hbr⟩ := grn_ent 6 hXr.out
 have mz : (bz, Obj.cells (gvS a n ca z b m cb c k cc).toArray 69) ∈ LL := by rw [hLL]; repeat (first | exact .head _ | with_reducible assumption | apply mC)
 have mg1 : (g1, Obj.cells cur1.toArray 24) ∈ LL := by rw [hLL]; repeat (first | exact .head _ | with_reducible assumption | apply mC)
 have mgi : (gi, Obj.cells curi.toArray 3) ∈ LL := by rw [hLL]; repeat (first | exact .head _ | with_reducible assumption | apply mC)
 have mg2 : (g2, Obj.cells cur2.toArray 24) ∈ LL := by rw [hLL]; repeat (first | exact .head _ | with_reducible assumption | apply mC)
 have xYr : ∀ p, p ∈ Yr.bl → p ∈ LL := fun p hp => by rw [hLL]; exact .tail _ (.tail _ (.tail _ (.tail _ (.tail _ (List.mem_append_left _ hp)))))
 have xYs : ∀ p, p ∈ Ys.bl → p ∈ LL := fun p hp => by rw [hLL]; exact .tail _ (.tail _ (.tail _ (.tail _ (.tail _ (List.mem_append_right _ (List.mem_append_left _ hp))))))
 have xYo : ∀ p, p ∈ Yo.bl → p ∈ LL := fun p hp => by rw [hLL]; exact .tail _ (.tail _ (.tail _ (.tail _ (.tail _ (List.mem_append_right _ (List.mem_append_right _ (List.mem_append_left _ hp)))))))
 have xXr : ∀ p, p ∈ Xr.bl → p ∈ LL := fun p hp => by rw [hLL]; exact .tail _ (.tail _ (.tail _ (.tail _ (.tail _ (List.mem_append_right _ (List.mem_append_right _ (List.mem_append_right _ (List.mem_append_left _ hp))))))))
 have xXs : ∀ p, p ∈ Xs.bl → p ∈ LL := fun p hp => by rw [hLL]; exact .tail _ (.tail _ (.tail _ (.tail _ (.tail _ (List.mem_append_right _ (List.mem_append_right _ (List.mem_append_right _ (List.mem_append_right _ (List.mem_append_left _ hp)))))))))
 have xXo : ∀ p, p ∈ Xo.bl → p ∈ LL := fun p hp => by rw [hLL]; exact .tail _ (.tail _ (.tail _ (.tail _ (.tail _ (List.mem_append_right _ (List.mem_append_right _ (List.mem_append_right _ (List.mem_append_right _ (List.mem_append_right _ (List.mem_append_left _ hp))))))))))
 have cS1 := fun (w : World) (hw : Rep W.heap.size W LL w) => same_nums (xEj hXo.out lFo.out xXo) (xEj hYo.out lFo.out xYo) lko.out true ⟨fun _ => ⟨rfl, fun _ _ => rfl⟩, fun _ => rfl⟩ hw
 have cS2 := fun (w : World) (hw : Rep W.heap.size W LL w) => same_nums (xEj hXs.out lFs.out xXs) (xEj hYs.out lFs.out xYs) lks.out true ⟨fun _ => ⟨rfl, fun _ _ => rfl⟩, fun _ => rfl⟩ hw
 have cS3 := fun (w : World) (hw : Rep W.heap.size W LL w) => same_nums (xEj hXr.out lFr.out xXr) (xEj hYr.out lFr.out xYr) lkr.out true ⟨fun _ => ⟨rfl, fun _ _ => rfl⟩, fun _ => rfl⟩ hw
 have cL1 := fun (w : World) (hw : Rep W.heap.size W LL w) => left_nums ho1.out mg1 (S1.out.any (L := LL)) n60.out hw
 have cLi := fun (w : World) (hw : Rep W.heap.size W LL w) => left_ints hoi.out mgi (S2.out.any (L := LL)) m60.out hw
 have cL2 := fun (w : World) (hw : Rep W.heap.size W LL w) => left_nums ho2.out mg2 (S3.out.any (L := LL)) k60.out hw
 obtain ⟨E5, hE5⟩ : ∃ E, E = at5 (Ent.mk (some ⟨g1, 0, none⟩) n p1 none 0 0 1) (Ent.mk (some ⟨g2, 0, none⟩) k p2 none 0 0 3) (Ent.mk Xo.a ko Xo.cap none 0 0 4) (Ent.mk Xs.a ks Xs.cap none 0 0 5) (Ent.mk Xr.a kr Xr.cap none 0 0 6) := ⟨_, rfl⟩
 obtain ⟨Ei, hEi⟩ : ∃ E : Nat → Ent, E = fun _ => Ent.mk (some ⟨gi, 0, none⟩) m pi none 0 0 2 := ⟨_, rfl⟩
 have e0 : E5 0 = ⟨some ⟨g1, 0, none⟩, n, p1, none, 0, 0, 0 + 1⟩ := by rw [hE5]; rfl
 have e1 : E5 1 = ⟨some ⟨g2, 0, none⟩, k, p2, none, 0, 0, 2 + 1⟩ := by rw [hE5]; rfl
 have e2 : E5 2 = ⟨Xo.a, ko, Xo.cap, none, 0, 0, 3 + 1⟩ := by rw [hE5]; rfl
 have e3 : E5 3 = ⟨Xs.a, ks, Xs.cap, none, 0, 0, 4 + 1⟩ := by rw [hE5]; rfl
 have e4 : E5 4 = ⟨Xr.a, kr, Xr.cap, none, 0, 0, 5 + 1⟩ := by rw [hE5]; rfl
 have ei : Ei 0 = ⟨some ⟨gi, 0, none⟩, m, pi, none, 0, 0, 1 + 1⟩ := by rw [hEi]
 have hent : ∀ j, j < 5 → EntOk (E5 j) (at5 (some g1) (some g2) go gs gr j) (at5 cur1 cur2 co cs cr j) (at5 (twN f n) (twN P k) Fo Fs Fr j) := fun j hj => by
  rw [hE5]
  match j, hj with
  | 0, _ => exact twin_ent ho1.out
  | 1, _ => exact twin_ent ho2.out
  | 2, _ => exact heo
  | 3, _ => exact hes
  | 4, _ => exact her
 have henti : ∀ j, j < 1 → xFc (Ei j) ((fun _ => some gi : Nat → Option Nat) j) ((fun _ => curi : Nat → List Value) j) ((fun _ => twI A m : Nat → Nat → Int) j) := fun j hj => by
  rw [hEi]
  exact twin_entJ hoi.out
 have hk5 : ∀ j, j < 5 → (E5 j).k ≤ 1000000 ∧ (E5 j).n ≤ 900000 := fun j hj => by
  have a1 := n60.out; have a2 := k60.out; have a3 := lko.out; have a4 := lks.out; have a5 := lkr.out
  match j, hj with
  | 0, _ => rw [e0]; exact ⟨by show 0 + 1 ≤ 1000000; omega, by show n ≤ 900000; omega⟩
  | 1, _ => rw [e1]; exact ⟨by show 2 + 1 ≤ 1000000; omega, by show k ≤ 900000; omega⟩
  | 2, _ => rw [e2]; exact ⟨by show 3 + 1 ≤ 1000000; omega, by show ko ≤ 900000; omega⟩
  | 3, _ => rw [e3]; exact ⟨by show 4 + 1 ≤ 1000000; omega, by show ks ≤ 900000; omega⟩
  | 4, _ => rw [e4]; exact ⟨by show 5 + 1 ≤ 1000000; omega, by show kr ≤ 900000; omega⟩
 have hki : ∀ j, j < 1 → (Ei j).k ≤ 1000000 ∧ (Ei j).n ≤ 900000 := fun j hj => by
  have a1 := m60.out
  rw [hEi]
  exact ⟨by show 2 ≤ 1000000; omega, by show m ≤ 900000; omega⟩
 have hperm : LL.Perm (xBt (fun j => blkE (at5 (some g1) (some g2) go gs gr j) (at5 cur1 cur2 co cs cr j)) 5 ++ (xBt (fun j => xFu ((fun _ => some gi : Nat → Option Nat) j) ((fun _ => curi : Nat → List Value) j)) 1 ++ RR)) := by
  have key : LL.Perm (((((([] ++ [(g1, Obj.cells cur1.toArray 24)]) ++ [(g2, Obj.cells cur2.toArray 24)]) ++ blkE go co) ++ blkE gs cs) ++ blkE gr cr) ++ (([] ++ [(gi, Obj.cells curi.toArray 3)]) ++ RR)) := by
   rw [← hbo, ← hbs, ← hbr, hLL, hRR]
   refine perm_blocks fun y => ?_
   simp only [List.count_append, List.count_cons, List.count_nil]
   omega
  exact key
 have kb0 : GrHOk ⟨none, 0, []⟩ 0 E5 := .inl ⟨rfl, rfl⟩
 replace e0 := Held.mk e0
 replace e1 := Held.mk e1
 replace e2 := Held.mk e2
 replace e3 := Held.mk e3
 replace e4 := Held.mk e4
 replace ei := Held.mk ei
 replace hent := Held.mk hent
 replace henti := Held.mk henti
 replace hk5 := Held.mk hk5
 replace hki := Held.mk hki
 replace hperm := Held.mk hperm
 replace kb0 := Held.mk kb0
 clear hbo hbs hbr heo hes her hE5 hEi hLL hRR xYo xYs xYr xXo xXs xXr mg1 mgi mg2 cO dO cS dS cR dR hXo hXs hXr hYo hYs hYr ho1 hoi ho2 S1 S2 S3 n60 m60 k60 lko lks lkr lFo lFs lFr
 go_wp2_with (first | go_skip | (refine' wpList_buildE rfl rfl build_bookI ?_) | (refine' aAq hR ?_; clear hR; intro blk w hR) | (refine' aBq hR ?_; clear hR; intro blk w hR) | (refine' aNq hR ?_) | (refine' aPq hR ?_) | (refine' aMq hR ?_) | (refine' aRq hR ?_; clear hR; intro w hR) | (refine' aUq hR ?_; clear hR; intro w hR) | (refine' aVq hR ?_) | (refine' aZq hR ?_) | (refine' aDr hR ?_) | (go_at_call 14; refine (cS1 _ hR).mono ?_; clear hR cS1; rintro e w ⟨rfl, hR⟩) | (go_at_call 14; refine (cS2 _ hR).mono ?_; clear hR cS2; rintro e w ⟨rfl, hR⟩) | (go_at_call 14; refine (cS3 _ hR).mono ?_; clear hR cS3; rintro e w ⟨rfl, hR⟩) | (go_at_call 15; refine (cL1 _ hR).mono ?_; clear hR cL1; rintro e w ⟨rfl, hR⟩) | (go_at_call 29; refine (cLi _ hR).mono ?_; clear hR cLi; rintro e w ⟨rfl, hR⟩) | (go_at_call 15; refine (cL2 _ hR).mono ?_; clear hR cL2; rintro e w ⟨rfl, hR⟩) | (go_at_call 16; refine (xFl (t := .slice none 0 0) (E := E5) (x := ⟨none, 0, []⟩) (m := 0) (N := 0) (R := LL) kb0.out (by decide) (by decide) e0.out hR).mono ?_; clear hR; rintro e w ⟨rfl, x1, hx1, hR⟩; replace hx1 := Held.mk hx1) | (go_at_call 30; refine (book_ints (Ei := Ei) (X := x1.bl) (N := 1) (L := LL) (by decide) ei.out hR).mono ?_; clear hR; rintro e w ⟨rfl, y1, hy1, hR⟩; replace hy1 := Held.mk hy1) | (go_at_call 16; refine (xFl (t := .slice y1.a 1 y1.cap) (E := E5) (x := x1) (m := 1) (N := 2) (R := y1.bl ++ LL) hx1.out (by decide) (by decide) e1.out hR).mono ?_; clear hR; rintro e w ⟨rfl, x2, hx2, hR⟩; replace hx2 := Held.mk hx2) | (go_at_call 16; refine (xFl (t := .slice y1.a 1 y1.cap) (E := E5) (x := x2) (m := 2) (N := 3) (R := y1.bl ++ LL) hx2.out (by decide) (by decide) e2.out hR).mono ?_; clear hR; rintro e w ⟨rfl, x3, hx3, hR⟩; replace hx3 := Held.mk hx3) | (go_at_call 16; refine (xFl (t := .slice y1.a 1 y1.cap) (E := E5) (x := x3) (m := 3) (N := 4) (R := y1.bl ++ LL) hx3.out (by decide) (by decide) e3.out hR).mono ?_; clear hR; rintro e w ⟨rfl, x4, hx4, hR⟩; replace hx4 := Held.mk hx4) | (go_at_call 16; refine (xFl (t := .slice y1.a 1 y1.cap) (E := E5) (x := x4) (m := 4) (N := 5) (R := y1.bl ++ LL) hx4.out (by decide) (by decide) e4.out hR).mono ?_; clear hR; rintro e w ⟨rfl, x5, hx5, hR⟩; replace hx5 := Held.mk hx5) | (go_at_call 17; refine (book_apartI (E := E5) (Ei := Ei) (x := x5) (y := y1) (m := 5) (mi := 1) (L := LL) (R := RR) hx5.out hy1.out (by decide) (by decide) (by decide) (by decide) hk5.out hki.out hent.out henti.out hperm.out hR).mono ?_; clear hR; rintro e w ⟨rfl, hR⟩))
 go_ret
 exact ⟨rfl, hR.below⟩
end Go.Proofs.YtaaahfjpnggkbaaGreatDoor
