import Derived.Test.YtaaahfjpnggkbaaGreatDoorHB
set_option linter.unusedSimpArgs false
set_option linter.unusedVariables false
set_option maxRecDepth 100000
set_option maxHeartbeats 20000000
namespace Go.Proofs.YtaaahfjpnggkbaaGreatDoor
open Go.RowKit
section
attribute [local irreducible] Calls Instr.build Instr.buildSlice
section
variable {w w0 : World} {B0 : Nat} {R : List (Nat × Obj)}
theorem appN_run {x : GrN} {n : Nat} {f : Nat → Nat} {v c : Nat} {ad : Addr} {ty : TypeId} (hR : Rep B0 w0 (x.bl ++ R) w) (hg : xCc x n f) (hv : f n = v) (hbig : n ≤ 1000000) (hnews : ∀ j u, (nl v)[j]? = some u → w.cell? (ad.add j) = some u) :
  ∃ (x' : GrN) (w' : World), (Builtin.append_ #[27, 27] ty #[.slice x.a n x.cap, .slice (some ad) 1 c]).run Tryz.prog w = .ok (.slice x'.a (n + 1 : Nat) x'.cap) w' ∧ xCc x' (n + 1) f ∧ Rep B0 w0 (x'.bl ++ R) w' := by
 subst hv
 obtain ⟨i, z, hi, hz, hzs, hsize, hby⟩ := xFq
 have hm63 : n + 1 ≤ maxLen := by unfold maxLen; omega
 have hmb : (n + 1) * 32 ≤ 140737488355328 := by omega
 rcases hg with ⟨rfl, rfl⟩ | ⟨g, cur, ha, hbl, h1, h2, h3, h4⟩
 ·obtain ⟨v', w', hr, hO, hgr, hiff, hat⟩ := run_append_own_at (P := Tryz.prog) w B0 27 ty 24 i z 4 32 Tryz.underlying27 hi hz hsize hby hzs (by decide) (.slice none 0 0) 0 [] ⟨by simp, .inl ⟨rfl, rfl⟩⟩ ad 1 c (nl (f 0)) rfl hnews (xGa _) hm63 hmb hR.le
  obtain ⟨hl', ⟨hv, _⟩ | ⟨g', cap', cur', rfl, hB, hh, k2, k3, k4, k5⟩⟩ := hO
  ·exact absurd (hiff.1 hv).2 (by decide)
  ·have hR' := hR.growN hgr (fun r hr => by cases hr)
   have hgg : g' = w.heap.size := by
    rcases hat with hat | hat
    ·cases hat
    ·exact Option.some.inj hat
   have hR2 := hR'.addN hB hh (fun p hp e => by
    have := hR.lt hp
    omega)
   refine ⟨⟨some ⟨g', 0, none⟩, cap', [(g', .cells cur'.toList.toArray 24)]⟩, w', hr, .inr ⟨g', cur'.toList, rfl, rfl, k2, k3, by simpa using k4, ?_⟩, ?_⟩
   ·rw [k5]; rfl
   ·simpa using hR2
 ·rw [hbl] at hR
  have hR1 : Rep B0 w0 ((g, .cells cur.toArray 24) :: R) w := hR
  obtain ⟨v', w', hr, hO, hgr, hiff, hat⟩ := run_append_own_at (P := Tryz.prog) w B0 27 ty 24 i z 4 32 Tryz.underlying27 hi hz hsize hby hzs (by decide) (.slice (some ⟨g, 0, none⟩) n x.cap) n (xFd f n)
   ⟨by rw [xBb], .inr ⟨g, x.cap, cur.toArray, rfl, (hR1.own _ (.head _)).1, (hR1.own _ (.head _)).2, h1, h2, by simpa using h3, by simpa using h4⟩⟩ ad 1 c (nl (f n)) rfl hnews (xGa _) hm63 hmb hR.le
  obtain ⟨hl', ⟨hv, _⟩ | ⟨g', cap', cur', rfl, hB, hh, k2, k3, k4, k5⟩⟩ := hO
  ·exact absurd (hiff.1 hv).2 (by decide)
  ·have hR' := hR1.dropN.growN hgr (fun r hr => by
    obtain rfl : g = r := Option.some.inj hr
    exact ⟨(hR1.own _ (.head _)).1, hR1.apartN⟩)
   have hR2 := hR'.addN hB hh (fun p hp e => by
    rcases hat with hat | hat
    ·have hgg : g' = g := Option.some.inj hat
     exact hR1.apartN p hp (e.trans hgg)
    ·have hgg : g' = w.heap.size := Option.some.inj hat
     have := hR1.lt (.tail _ hp)
     omega)
   rw [ha]
   refine ⟨⟨some ⟨g', 0, none⟩, cap', [(g', .cells cur'.toList.toArray 24)]⟩, w', hr, .inr ⟨g', cur'.toList, rfl, rfl, k2, k3, by simpa using k4, ?_⟩, ?_⟩
   ·rw [k5, xCx]
   ·simpa using hR2
end
theorem own_cellN {B0 : Nat} {w0 w : World} {L : List (Nat × Obj)} {b : Nat} {l : List Value} {t : TypeId} (hw : Rep B0 w0 L w) (hm : (b, Obj.cells l.toArray t) ∈ L) {j : Nat} {u : Value} (hj : l[j]? = some u) : w.cell? ((⟨b, 0, none⟩ : Addr).add j) = some u := by
 rw [xBw, Nat.zero_add]
 exact hw.cell hm hj
section
variable {ops : Array Oper} {B0 : Nat} {w0 : World} {Kp : List (Nat × Obj)} {Q : Exit → Act → World → Prop} {L R L' : List (Nat × Obj)}
theorem f_appN {N : Nat} {listed : Array Bool} {a : Act} {i : Nat} {r : List Nat} {oi : Oper} {di : Tmp} {s y : Operand} {b v n : Nat} {f : Nat → Nat} {x : GrN} (hoi : ops[i]? = some oi) (hdi : oi.dst = some di) (hg : oi.guard = none)
  (hop : oi.op = .call { callee := .builtin .append, args := #[s, y], argTypes := #[27, 27] }) (hs : ev a s = some (.slice x.a n x.cap)) (hy : ev a y = some (.slice (some ⟨b, 0, none⟩) 1 1))
  (hL : L.Perm (x.bl ++ R)) (hm : (b, Obj.cells (nl v).toArray 24) ∈ L) (hx : xCc x n f) (hv : f n = v) (hbig : n ≤ 1000000) (hk : ∀ p, p ∈ Kp → p ∈ R)
  (h : ∀ x' : GrN, xCc x' (n + 1) f → xDv Tryz.prog ops B0 w0 Kp Q N (listed.setIfInBounds i true) (a.put (some di) (.slice x'.a (n + 1 : Nat) x'.cap)) (x'.bl ++ R))
  (hr : xEm Tryz.prog ops B0 w0 Kp Q N listed a L r) : xEm Tryz.prog ops B0 w0 Kp Q N listed a L (i :: r) := by
 rw [← hdi] at h
 refine ⟨⟨oi, hoi, fun u M => ∃ x' : GrN, u = .slice x'.a (n + 1 : Nat) x'.cap ∧ xCc x' (n + 1) f ∧ M = x'.bl ++ R, .inl ⟨xCd hg _, fun w hw => ?_⟩, fun u M ⟨x', hu, h1, hM⟩ => ?_⟩, hr⟩
 ·obtain ⟨x', w', hrun, h1, hR'⟩ := appN_run (hw.permT hL) (ty := oi.type) (c := 1) hx hv hbig (ad := ⟨b, 0, none⟩) (fun j u hj => own_cellN hw hm hj)
  have hs := xAw hs
  have hy := xAw hy
  unfold execOp
  simp only [hop, resolve, invoke, builtin, Sem.run_bind, Sem.run_pure, Result.andThen_ok, List.map_toArray, List.map_cons, List.map_nil, hs, hy, hrun]
  exact ⟨_, ⟨x', rfl, h1, rfl⟩, hR'⟩
 ·subst hu hM
  exact ⟨fun p hp => List.mem_append_right _ (hk p hp), h x' h1⟩
theorem xAy {o : Oper} {a : Act} (hg : o.guard = none) {x : Operand} (hop : o.op = .assign x ∨ o.op = .move x) {v : Value} (hx' : ev a x = some v) : xBa Tryz.prog ops o v a (Rep B0 w0 L) (Rep B0 w0 L) :=
 .inl ⟨xCd hg _, fun w hR => by
  have hx := xAw hx'
  unfold execOp
  subst hx
  rcases hop with hop | hop
  all_goals
   rw [hop]
   exact ⟨rfl, hR⟩⟩
theorem yields_loadRow {o : Oper} {a : Act} (hg : o.guard = none) {ty : TypeId} {x : Operand} (hop : o.op = .load ty x) {n : Nat} {b off : Nat} (hx : a.eval x = .pointer (some ⟨b, off, none⟩)) (hT : RowT Tryz.prog ty n) {l vs : List Value} {t : TypeId}
  (hm : (b, Obj.cells l.toArray t) ∈ L) (hv : (l.drop off).take n = vs) (hn : vs.length = n) : xBa Tryz.prog ops o (.agg vs.toArray) a (Rep B0 w0 L) (Rep B0 w0 L) :=
 .inl ⟨xCd hg _, fun w hR => by
  unfold execOp
  simp only [hop, hx, Instr.loadAt, Instr.sureAddr, Sem.run_bind, Sem.run_pure, Result.andThen_ok, hR.loadRow (P := Tryz.prog) (ty := ty) hm hv hn]
  exact ⟨rfl, hR⟩⟩
end
def skipN (i j : Nat) : Nat := if j < i then j else j + 1
def cntN (i k : Nat) : Nat := if k ≤ i then k else k - 1
theorem skip_cnt {i k : Nat} (h : k ≠ i) : skipN i (cntN i k) = k := by
 unfold skipN cntN
 split <;> split <;> omega
theorem cnt_next {i k : Nat} (h : k ≠ i) : cntN i (k + 1) = cntN i k + 1 := by
 unfold cntN
 split <;> split <;> omega
theorem cnt_same (i : Nat) : cntN i (i + 1) = cntN i i := by
 unfold cntN
 split <;> split <;> omega
noncomputable def othF (q : Nat) (f : Nat → Nat) (i x j : Nat) : Nat := subN x (f (skipN i j)) q
section
variable {p q g h : Nat} {fb : Nat} {e : Int} {B0 : Nat} {w0 w : World} {L L' : List (Nat × Obj)} {a : Option Addr} {n cp : Nat} {f : Nat → Nat}
theorem subN_lt {q : Nat} (h : 1 < q) (x y : Nat) : subN x y q < q := by rw [xEi]; exact Nat.mod_lt _ (by omega)
theorem others_any {i xv : Nat} (h1 : 1 < q) (hq : q < B) (hx : xv < q) (hf : ∀ j, j < n → f j < q) (hA : NAt B0 w0 [] a n cp f) (hn : n ≤ 1000000) (hi : i < n) (hm : (fb, Obj.cells (pfl p q g h e).toArray 79) ∈ L) (hR : Rep B0 w0 L w) :
  Calls Tryz.prog 38 #[.pointer (some ⟨fb, 0, none⟩), .slice a n cp, .int .i64 (i : Int), num xv] w fun en w' => ∃ X : GrN, en = .returned (.slice X.a (n - 1 : Nat) X.cap) ∧ xCc X (n - 1) (othF q f i xv) ∧ Rep B0 w0 (X.bl ++ L) w' := by
 replace hA := Held.mk hA
 replace hf := Held.mk hf
 replace hi := Held.mk hi
 go_enter Tryz.func38, Tryz.ntmps38
 go_wp2_with (refine' aAq hR ?_; clear hR; intro blk w hR)
 try simp only [Act.put, kA, kB, List.setIfInBounds_toArray]
 refine' xAv (false :: false :: false :: false :: false :: false :: false :: false :: false :: true :: false :: false :: false :: true :: true :: true :: true :: true :: true :: true :: true :: true :: true :: true :: true :: true :: true :: true :: true :: false :: []) (fun (y : Nat × GrN) l => (l.set 12 (.int .i64 (y.1 : Int))).set 8 (.slice y.2.a (cntN i y.1) y.2.cap)) (fun y => y.2.bl ++ ((blk, Obj.cells (nl xv).toArray 24) :: L)) (fun y => n - y.1) (fun y => y.1 ≤ n ∧ xCc y.2 (cntN i y.1) (othF q f i xv)) (0, ⟨none, 0, []⟩) ?h0 ?hO ?hR ?hs
 case h0 => exact xAf rfl rfl rfl
 case hO => exact ⟨Nat.zero_le _, xBj _⟩
 case hR => exact hR
 case hs =>
  clear hR
  intro y tm w hO ht hR K hK
  obtain ⟨k, X⟩ := y
  obtain ⟨hk, hX⟩ := hO
  simp only at hk hX ht hR
  have g0 : 0 ≤ (k : Int) := by omega
  by_cases hkn : k = n
  ·subst hkn
   have t1 : ¬ (k : Int) < (k : Int) := by omega
   have ec : cntN i k = k - 1 := by have := hi.out; unfold cntN; split <;> omega
   rw [ec] at hX ht
   clear hK hk hA hf hi ec
   repeat (first | (obtain ⟨x, tm', e, ht'⟩ := xAc ht; clear ht; subst e; have ht := ht'; clear ht') | (obtain ⟨tm', e, ht'⟩ := xAa ht; clear ht; subst e; have ht := ht'; clear ht'))
   obtain rfl := xAe ht
   clear ht
   go_wp2_with (fail)
   go_ret
   exact ⟨X, rfl, hX, hR.weaken ((List.sublist_cons_self _ _).append_left _)⟩
  ·have hkl : k < n := by omega
   have g1 : (k : Int) < (n : Int) := by omega
   have ei : IntKind.i64.wrap ((k : Int) + 1) = ((k + 1 : Nat) : Int) := by rw [IntKind.wrap_i64]; omega
   have hk1 : k + 1 ≤ n := by omega
   have hmu : n - (k + 1) < n - k := by omega
   replace hk1 := Held.mk hk1
   replace hmu := Held.mk hmu
   by_cases hki : k = i
   ·have c1 : ¬ (k : Int) ≠ (i : Int) := by omega
    have c2 : ((k : Int) == (i : Int)) = true := by simp; omega
    have c3 : ((k : Int) != (i : Int)) = false := by simp; omega
    have c4 : (k : Int) = (i : Int) := by omega
    have ec : cntN i (k + 1) = cntN i k := by rw [hki]; exact cnt_same i
    replace ec := Held.mk ec
    generalize cntN i k = c at *
    clear hk hA hf hi hkn hkl hki c4
    repeat (first | (obtain ⟨x, tm', e, ht'⟩ := xAc ht; clear ht; subst e; have ht := ht'; clear ht') | (obtain ⟨tm', e, ht'⟩ := xAa ht; clear ht; subst e; have ht := ht'; clear ht'))
    obtain rfl := xAe ht
    clear ht
    go_wp2_with (fail)
    refine hK.out (k + 1, X) _ _ ⟨hk1.out, by show xCc X (cntN i (k + 1)) _; rw [ec.out]; exact hX⟩ hmu.out (by show xGq _ ((List.set _ 12 (.int .i64 ((k + 1 : Nat) : Int))).set 8 (.slice X.a (cntN i (k + 1)) X.cap)) _; rw [ec.out]; exact xAf rfl rfl rfl) hR
   ·have c1 : (k : Int) ≠ (i : Int) := by omega
    have c2 : ((k : Int) == (i : Int)) = false := by simp; omega
    have c3 : ((k : Int) != (i : Int)) = true := by simp; omega
    have ec : cntN i (k + 1) = cntN i k + 1 := cnt_next hki
    have es : skipN i (cntN i k) = k := skip_cnt hki
    have hcb : cntN i k ≤ 1000000 := by unfold cntN; split <;> omega
    obtain ⟨bb, off, rfl, hxx⟩ := hA.out.at' (by omega)
    obtain ⟨y, hy⟩ : ∃ y, f k = y := ⟨_, rfl⟩
    have ly : y < q := by rw [← hy]; exact hf.out k hkl
    have ld := fun (L : List (Nat × Obj)) (w : World) (hw : Rep B0 w0 L w) => xBc (hxx w (hw.weaken (List.nil_sublist _)) k hkl)
    rw [hy] at ld
    obtain ⟨r, hr⟩ : ∃ r, subN xv y q = r := ⟨_, rfl⟩
    have hF : othF q f i xv (cntN i k) = r := by unfold othF; rw [es, hy, hr]
    have cl := fun (L' : List (Nat × Obj)) (w : World) (hmm : (fb, Obj.cells (pfl p q g h e).toArray 79) ∈ L') (hw : Rep B0 w0 L' w) => fless_ok h1 hq hx ly hr hmm hw
    replace ec := Held.mk ec
    replace hF := Held.mk hF
    generalize cntN i k = c at *
    clear hk hA hf hi hkn hkl hki es hy hr hxx
    repeat (first | (obtain ⟨x, tm', e, ht'⟩ := xAc ht; clear ht; subst e; have ht := ht'; clear ht') | (obtain ⟨tm', e, ht'⟩ := xAa ht; clear ht; subst e; have ht := ht'; clear ht'))
    obtain rfl := xAe ht
    clear ht
    go_wp2_with (fail)
    have m1 : (fb, Obj.cells (pfl p q g h e).toArray 79) ∈ X.bl ++ (blk, Obj.cells (nl xv).toArray 24) :: L := List.mem_append_right _ (.tail _ hm)
    have m2 : (blk, Obj.cells (nl xv).toArray 24) ∈ X.bl ++ (blk, Obj.cells (nl xv).toArray 24) :: L := List.mem_append_right _ (.head _)
    rename_i K5 k5
    try simp only [Act.put, kA, kB, List.setIfInBounds_toArray]
    refine xBl hR 11 xBd rfl ?_
    clear hR
    refine xCo [(blk, .cells (nl xv).toArray 24), (fb, .cells (pfl p q g h e).toArray 79)] [1, 1, 1, 1, 1, 1, 1, 1, 2, 2, 2] 3 rfl (by repeat (exact xAu)) (by repeat (first | exact xAu | refine xAx (by repeat (first | exact .head _ | with_reducible assumption | apply mC)) ?_)) rfl (by decide +kernel) (fun K hK => ?_)
    repeat ((first | (refine' xDr rfl rfl rfl ld ?ha ?_) | (refine xAp ?_) | (refine' xAj (by decide) rfl (.inl rfl) rfl ?ha ?_) | (refine' aWq ?ha ?_) | ((refine' xAg (by decide) rfl rfl rfl rfl (fun w => ?hq) ?ha ?_); (case hq => go_simp; try rfl)) | (refine' hd_callK rfl rfl rfl (xAi Tryz.func128 (by kernel_rfl) (by kernel_rfl) _) (fun L' w hL hw => cl _ w (hL _ (.tail _ (.head _))) hw) ?ha ?_)); try (case ha => simp only [kP, kQ, kA, kB]; try rfl))
    refine xAo (hK _ _ ?_)
    clear hK K
    refine f_at [8] (by decide +kernel) rfl ?_
    refine f_is 8 ?_
    refine f_new rfl rfl (xBv rfl rfl rfl) (by repeat (first | exact xAu | refine xAx (by repeat (first | exact .head _ | with_reducible assumption | apply mC)) ?_)) (fun bs => ?_) xCl
    simp only [Act.put, kA, kB, List.setIfInBounds_toArray]
    refine f_at [9] (by decide +kernel) rfl ?_
    refine f_is 9 ?_
    refine f_appN (x := X) (n := c) (f := othF q f i xv) (v := r) (b := bs) rfl rfl rfl rfl rfl rfl List.perm_middle.symm (.head _) hX hF.out hcb (by repeat (first | exact xAu | refine xAx (by repeat (first | exact .head _ | with_reducible assumption | apply mC)) ?_)) (fun X' hX' => ?_) xCl
    simp only [Act.put, kA, kB, List.setIfInBounds_toArray]
    refine f_at [10] (by decide +kernel) rfl ?_
    refine f_is 10 ?_
    refine f_y rfl rfl (xAy rfl (.inl rfl) rfl) (by
     intro p hp
     refine List.mem_append_right _ ?_
     revert p
     exact (by repeat (first | exact xAu | refine xAx (by repeat (first | exact .head _ | with_reducible assumption | apply mC)) ?_))) ?_ xCl
    simp only [Act.put, kA, kB, List.setIfInBounds_toArray]
    refine f_end (by decide +kernel) (fun w hR => ?_)
    simp only [Exit.then, Exit.inBlock]
    refine k5 _ _ ?_
    go_wp2_with (fail)
    refine hK.out (k + 1, X') _ _ ⟨hk1.out, by show xCc X' (cntN i (k + 1)) _; rw [ec.out]; exact hX'⟩ hmu.out (by show xGq _ ((List.set _ 12 (.int .i64 ((k + 1 : Nat) : Int))).set 8 (.slice X'.a (cntN i (k + 1)) X'.cap)) _; rw [ec.out]; exact xAf rfl rfl rfl) (hR.weaken ((List.sublist_cons_self _ _).append_left _))
noncomputable def prodS (q b : Nat) (F : Nat → Nat) : Nat → Nat
 | 0 => b
 | j + 1 => mulN (prodS q b F j) (F j) q
theorem xIq {b : Nat} {F : Nat → Nat} (h1 : 1 < q) (hb : b < q) : ∀ j, prodS q b F j < q
 | 0 => hb
 | j + 1 => by unfold prodS; exact xJk h1 _ _
theorem xEj {X : GrN} {m : Nat} {F : Nat → Nat} (h : xCc X m F) (hF : ∀ j, j < m → F j < B) (hL : ∀ p, p ∈ X.bl → p ∈ L) : NAt B0 w0 L X.a m X.cap F :=
 ⟨(grN_cap h).1, (grN_cap h).2, hF, fun hm => by
  obtain ⟨g, cur, ha, hb, ho⟩ := grn_own h hm
  rw [ha]
  exact (ho.at (B0 := B0) (w0 := w0) (g := g) (hL _ (by rw [hb]; exact .head _)) (Nat.le_refl _) hF).at' hm⟩
theorem gt_ok {b : Nat} {F : Nat → Nat} (h1 : 1 < q) (hq : q < B) (hb : b < q) (hF : ∀ j, j < n → F j < q) (hA : NAt B0 w0 L a n cp F) (hn : n ≤ 1000000) (hm : (fb, Obj.cells (pfl p q g h e).toArray 79) ∈ L) (hR : Rep B0 w0 L w) :
  Calls Tryz.prog 36 #[num b, .slice a n cp, .func (.func 34) #[.pointer (some ⟨fb, 0, none⟩)] #[]] w fun en w' => en = .returned (num (prodS q b F n)) ∧ Rep B0 w0 L w' :=
 gtimes_any (S := prodS q b F) (E := fun _ => 0) (Lf := fun _ => L) (fun _ => hA) hn (fun j hj M w hw => ftimes_ok h1 hq (xIq h1 hb j) (hF j hj) (by rw [prodS]) (List.mem_append_right _ hm) hw) hR
theorem weight_any {e' er : Int} {i P r : Nat} (h1 : 1 < q) (hq : q < B) (hf : ∀ j, j < n → f j < q) (hA : NAt B0 w0 [] a n cp f) (hn : n ≤ 1000000) (hi : i < n) (hP : prodS q (sOf q 1) (othF q f i (f i)) (n - 1) = P) (hr : (if okE P q then invM P q else 0) = r) (her : invE P q = er) (he : xJp e er = e')
  (hs : xBq L fb (.cells (pfl p q g h e).toArray 79) (.cells (pfl p q g h e').toArray 79) L') (hR : Rep B0 w0 L w) :
  Calls Tryz.prog 37 #[.pointer (some ⟨fb, 0, none⟩), .slice a n cp, .int .i64 (i : Int)] w fun en w' => en = .returned (num r) ∧ Rep B0 w0 L' w' := by
 have hm := hs.spec.1
 have tg := pfl_g p q g h e
 have gi0 : 0 ≤ (i : Int) := by omega
 have gi1 : (i : Int) < (n : Int) := by omega
 have lP : P < q := by rw [← hP]; exact xIq h1 (sOf_lt h1 1) _
 obtain ⟨bb, off, rfl, hxx⟩ := hA.at' (by omega)
 have ld := fun (L : List (Nat × Obj)) (w : World) (hw : Rep B0 w0 L w) => xBc (hxx w (hw.weaken (List.nil_sublist _)) i hi)
 have so := fun (w : World) => sof_any p q g h 1 hq (by decide) (by decide) w
 have co := fun (L' : List (Nat × Obj)) (w : World) (hmm : (fb, Obj.cells (pfl p q g h e).toArray 79) ∈ L') (hw : Rep B0 w0 L' w) => others_any (i := i) (xv := f i) h1 hq (hf i hi) hf hA hn hi hmm hw
 have lo : ∀ j, othF q f i (f i) j < q := fun j => by unfold othF; exact subN_lt h1 _ _
 obtain ⟨F, hFe⟩ : ∃ F, othF q f i (f i) = F := ⟨_, rfl⟩
 rw [hFe] at hP co lo
 have cg := fun (X : GrN) (L' : List (Nat × Obj)) (w : World) (hX : xCc X (n - 1) F) (hL : ∀ p, p ∈ X.bl → p ∈ L') (hmm : (fb, Obj.cells (pfl p q g h e).toArray 79) ∈ L') (hw : Rep B0 w0 L' w) =>
  gt_ok h1 hq (sOf_lt h1 1) (fun j _ => lo j) (xEj hX (fun j _ => Nat.lt_trans (lo j) hq) hL) (by omega) hmm hw
 rw [hP] at cg
 have cu := fun (M N : List (Nat × Obj)) (w : World) (hst : xBq M fb (.cells (pfl p q g h e).toArray 79) (.cells (pfl p q g h e').toArray 79) N) (hw : Rep B0 w0 M w) => funder_any (Nat.lt_trans lP hq) hq hr her he hst hw
 generalize f i = x at *
 generalize sOf q 1 = s1 at *
 obtain ⟨n1, hn1⟩ : ∃ x, n - 1 = x := ⟨_, rfl⟩
 rw [hn1] at co cg
 clear hP hr her he hf hA hxx hFe
 go_enter Tryz.func37, Tryz.ntmps37
 go_wp2_with (refine' aBq hR ?_; clear hR; intro blk w hR)
 rename_i K5 k5
 try simp only [Act.put, kA, kB, List.setIfInBounds_toArray]
 refine xBl hR 19 xBd rfl ?_
 clear hR
 refine xCo [] [1, 1, 1, 1, 2, 2, 1, 1, 1, 1, 1, 1, 1, 2, 1, 1, 2, 2, 2] 6 rfl (by repeat (exact xAu)) (by repeat (exact xAu)) rfl (by decide +kernel) (fun K hK => ?_)
 repeat ((first | (refine' xDr rfl rfl rfl ld ?ha ?_) | (refine xAp ?_) | (refine' xAj (by decide) rfl (.inl rfl) rfl ?ha ?_) | ((first | refine' xAg (by decide) rfl rfl rfl rfl (fun w => ?hq) ?ha ?_ | refine' xAl (by decide) rfl rfl rfl (fun w => ?hq) ?ha ?_); (case hq => go_simp; try rfl)) | (refine' xAz (by decide) rfl rfl rfl ?ha ?_) | (refine' xGs (by decide) rfl rfl rfl rfl ?ha ?_)); try (case ha => simp only [kP, kQ, kA, kB]; try rfl))
 refine xAo (hK _ _ ?_)
 clear hK K
 refine f_at [4] (by decide +kernel) rfl ?_
 refine f_is 4 ?_
 refine f_y rfl rfl (yields_loadRow rfl rfl rfl inferInstance (.tail _ hm) tg rfl) (fun p hp => nomatch hp) ?_ xCl
 simp only [Act.put, kA, kB, List.setIfInBounds_toArray]
 refine f_at [5] (by decide +kernel) rfl ?_
 refine f_is 5 ?_
 refine f_y rfl rfl (xEo rfl rfl rfl (xAi Tryz.func103 (by kernel_rfl) (by kernel_rfl) _) (fun w hw => (so w).mono fun e w' ⟨he, hb⟩ => ⟨he, hw.call hb⟩)) (fun p hp => nomatch hp) ?_ xCl
 simp only [Act.put, kA, kB, List.setIfInBounds_toArray]
 refine f_at [13] (by decide +kernel) rfl ?_
 refine f_is 13 ?_
 refine f_call (fun v M => ∃ X : GrN, v = .slice X.a (n1 : Nat) X.cap ∧ xCc X n1 F ∧ M = X.bl ++ (blk, Obj.cells (List.toArray [Value.int .u64 0, .int .u64 0, .int .u64 0, .int .u64 0]) 24) :: L) rfl rfl rfl rfl rfl (xAi Tryz.func38 (by kernel_rfl) (by kernel_rfl) _) (fun w hw => (co _ w (.tail _ hm) hw).mono fun e w' ⟨X, he, hX, hR⟩ => ⟨_, he, _, ⟨X, rfl, hX, rfl⟩, hR⟩) (fun v M hM => ?_) xCl
 obtain ⟨X, rfl, hX, rfl⟩ := hM
 have m1 : (fb, Obj.cells (pfl p q g h e).toArray 79) ∈ X.bl ++ (blk, Obj.cells (List.toArray [Value.int .u64 0, .int .u64 0, .int .u64 0, .int .u64 0]) 24) :: L := List.mem_append_right _ (.tail _ hm)
 refine ⟨(fun p hp => nomatch hp), ?_⟩
 simp only [Act.put, kA, kB, List.setIfInBounds_toArray]
 refine f_at [16] (by decide +kernel) rfl ?_
 refine f_is 16 ?_
 refine f_y rfl rfl (xEo rfl rfl rfl (xAi Tryz.func36 (by kernel_rfl) (by kernel_rfl) _) (fun w hw => cg X _ w hX (fun p hp => List.mem_append_left _ hp) m1 hw)) (fun p hp => nomatch hp) ?_ xCl
 simp only [Act.put, kA, kB, List.setIfInBounds_toArray]
 refine f_at [17] (by decide +kernel) rfl ?_
 refine f_is 17 ?_
 refine f_y rfl rfl (xEo rfl rfl rfl (xAi Tryz.func127 (by kernel_rfl) (by kernel_rfl) _) (fun w hw => cu _ _ w ((xBq.tail hs).app X.bl) hw)) (fun p hp => nomatch hp) ?_ xCl
 simp only [Act.put, kA, kB, List.setIfInBounds_toArray]
 refine f_at [18] (by decide +kernel) rfl ?_
 refine f_is 18 ?_
 refine f_s rfl rfl (xEh rfl rfl rfl inferInstance rfl rfl rfl rfl (xBq.head.app X.bl)) (fun p hp => nomatch hp) ?_ xCl
 refine f_end (by decide +kernel) (fun w hR => ?_)
 simp only [Exit.then]
 refine k5 _ _ (wp_ret ?_)
 refine bodyPost_ret (xAq Tryz.results37 rfl (hR.loadAll (P := Tryz.prog) (ty := 24) (l := nl r) (t := 24) (List.mem_append_right _ (.head _)) rfl)) rfl ⟨rfl, ?_⟩
 exact hR.weaken ((List.sublist_cons_self _ _).trans (List.sublist_append_right _ _))
end
end
section
section
variable {P : Program} {B0 : Nat} {w0 w w' : World} {L M : List (Nat × Obj)}
theorem Rep.join (hR : Rep B0 w0 L w) (h : Rep w.heap.size w M w') : Rep B0 w0 (M ++ L) w' := by
 have hb := hR.call h.below
 refine ⟨hb.below, hb.le, fun p hp => ?_, ?_⟩
 ·rcases List.mem_append.1 hp with hp | hp
  ·exact ⟨Nat.le_trans hR.le (h.own p hp).1, (h.own p hp).2⟩
  ·exact hb.own p hp
 ·rw [List.map_append]
  refine List.nodup_append.2 ⟨h.uniq, hR.uniq, fun x hx y hy hxy => ?_⟩
  obtain ⟨p1, hp1, rfl⟩ := List.mem_map.1 hx
  obtain ⟨p2, hp2, rfl⟩ := List.mem_map.1 hy
  have h1 := (h.own p1 hp1).1
  have h2 := hR.lt hp2
  omega
theorem num_zero_cells : ∀ k, k < 4 → (nl 0)[k]? = some (.int .u64 0) := fun k hk => by
 have : k = 0 ∨ k = 1 ∨ k = 2 ∨ k = 3 := by omega
 unfold nl
 simp only [wd_zero]
 rcases this with rfl | rfl | rfl | rfl <;> rfl
theorem info_numZ : (Tryz.prog.info? 24).map (fun i => (i.zero.map (fun z => z.cells), i.size, i.bytes)) = some (some #[.int .u64 0, .int .u64 0, .int .u64 0, .int .u64 0], 4, 32) := by kernel_rfl
theorem made_rows (n : Nat) : (madeCells #[Value.int .u64 0, .int .u64 0, .int .u64 0, .int .u64 0] (n * 4)).toList = xFd (fun _ => 0) n := by
 refine List.ext_getElem? fun m => ?_
 by_cases hm : m < n * 4
 ·obtain ⟨j, k, hk, rfl⟩ : ∃ j k, k < 4 ∧ m = j * 4 + k := ⟨m / 4, m % 4, Nat.mod_lt _ (by decide), by omega⟩
  rw [xIt _ n j k (by omega) hk, num_zero_cells k hk]
  unfold madeCells
  rw [Array.toList_map, List.getElem?_map, Array.toList_range, List.getElem?_range hm]
  have e : (j * 4 + k) % 4 = k := by omega
  show some ((#[Value.int .u64 0, .int .u64 0, .int .u64 0, .int .u64 0] : Array Value)[(j * 4 + k) % 4]!) = _
  rw [e]
  have : k = 0 ∨ k = 1 ∨ k = 2 ∨ k = 3 := by omega
  rcases this with rfl | rfl | rfl | rfl <;> rfl
 ·rw [List.getElem?_eq_none (by simp [size_madeCells]; omega), List.getElem?_eq_none (by rw [xBb]; omega)]
theorem make_numsZ (n : Nat) (hn : n ≤ 1000000) (w : World) : (Instr.makeSlice 27 (.int .i64 (n : Int)) (.int .i64 (n : Int))).run Tryz.prog w = .ok (.slice (some ⟨w.heap.size, 0, none⟩) n n) (w.alloc (.cells (xFd (fun _ => 0) n).toArray 24)) := by
 have h := info_numZ
 cases hi : Tryz.prog.info? 24 with
 | none => rw [hi] at h; cases h
 | some i =>
  rw [hi] at h
  simp only [Option.map_some, Option.some.injEq, Prod.mk.injEq] at h
  obtain ⟨h1, h2, h3⟩ := h
  cases hz : i.zero with
  | none => rw [hz] at h1; cases h1
  | some z =>
   rw [hz] at h1
   have hzc : z.cells = _ := Option.some.inj h1
   have := run_make (P := Tryz.prog) w 27 24 i z Tryz.underlying27 hi hz .i64 .i64 (n : Int) (n : Int) (by omega) (Int.le_refl _) (by rw [h3]; omega) (by omega)
   rw [this, h2, hzc, ← made_rows]
   simp
theorem xCs {f g : Nat → Nat} : ∀ {n : Nat}, (∀ j, j < n → f j = g j) → xFd f n = xFd g n
 | 0, _ => rfl
 | n + 1, h => by rw [xCx, xCx, xCs (n := n) (fun j hj => h j (by omega)), h n (by omega)]
theorem rowsN_set {f f' : Nat → Nat} {n i v : Nat} (hi : i < n) (hf : ∀ j, j < n → f' j = if j = i then v else f j) : (xFd f n).take (i * 4) ++ nl v ++ (xFd f n).drop (i * 4 + 4) = xFd f' n := by
 have hl := xBb f n
 have ht : ((xFd f n).take (i * 4)).length = i * 4 := by rw [List.length_take, hl]; omega
 have h4 : (nl v).length = 4 := xHm v
 refine List.ext_getElem? fun m => ?_
 by_cases hm : m < n * 4
 ·obtain ⟨j, k, hk, rfl⟩ : ∃ j k, k < 4 ∧ m = j * 4 + k := ⟨m / 4, m % 4, Nat.mod_lt _ (by decide), by omega⟩
  have hj : j < n := by omega
  rw [xIt f' n j k hj hk, hf j hj]
  by_cases hji : j = i
  ·subst hji
   rw [if_pos rfl, List.getElem?_append_left (by rw [List.length_append, ht, h4]; omega), List.getElem?_append_right (by rw [ht]; omega), ht, Nat.add_sub_cancel_left]
  ·rw [if_neg hji, ← xIt f n j k hj hk]
   by_cases hlt : j < i
   ·rw [List.getElem?_append_left (by rw [List.length_append, ht, h4]; omega), List.getElem?_append_left (by rw [ht]; omega), List.getElem?_take, if_pos (by omega)]
   ·rw [List.getElem?_append_right (by rw [List.length_append, ht, h4]; omega), List.length_append, ht, h4, List.getElem?_drop]
    congr 1
    omega
 ·rw [List.getElem?_eq_none (by rw [List.length_append, List.length_append, ht, h4, List.length_drop, hl]; omega), List.getElem?_eq_none (by rw [xBb]; omega)]
end
attribute [local irreducible] Calls Instr.build Instr.buildSlice Instr.makeSlice
section
variable {ops : Array Oper} {B0 : Nat} {w0 : World} {L L' : List (Nat × Obj)} {o : Oper} {a : Act}
theorem yields_storeN (hg : o.guard = none) {x y : Operand} (hop : o.op = .store 24 x y) {b i n v : Nat} {f f' : Nat → Nat} {t : TypeId} (hx : ev a x = some (.pointer (some ⟨b, i * 4, none⟩))) (hy : ev a y = some (num v)) (hi : i < n) (hf : ∀ j, j < n → f' j = if j = i then v else f j)
  (hs : xBq L b (.cells (xFd f n).toArray t) (.cells (xFd f' n).toArray t) L') : xBa Tryz.prog ops o undef a (Rep B0 w0 L) (Rep B0 w0 L') :=
 .inl ⟨xCd hg _, fun w hR => by
  have hx := xAw hx
  have hy := xAw hy
  obtain ⟨w', e, hR'⟩ := hR.storeRow (P := Tryz.prog) (ty := 24) (off := i * 4) (vs := nl v) rfl rfl hs (by rw [xBb, xHm]; omega) (rowsN_set hi hf)
  unfold execOp
  simp only [hop, hx, hy, Instr.storeAt, Instr.sureAddr, Sem.run_bind, Sem.run_pure, Result.andThen_ok, e]
  exact ⟨rfl, hR'⟩⟩
theorem xIw (hg : o.guard = none) {t : TypeId} {x y : Operand} (hop : o.op = .indexAddr t x y) {vx vy u : Value} (hx : ev a x = some vx) (hy : ev a y = some vy) (hrun : ∀ w, (Instr.indexAt t vx vy).run Tryz.prog w = .ok u w) : xBa Tryz.prog ops o u a (Rep B0 w0 L) (Rep B0 w0 L) :=
 .inl ⟨xCd hg _, fun w hR => by
  have hx := xAw hx
  have hy := xAw hy
  have e : (execOp a.eval o).run Tryz.prog w = .ok (.value u) w := by
   unfold execOp
   simp only [hop, hx, hy]
   exact xDl _ (hrun w)
  rw [e]
  exact ⟨rfl, hR⟩⟩
theorem isNew_box (hg : o.guard = none) {ty : TypeId} {x : Operand} (hop : o.op = .box ty x) {l : List Value} (hx : ev a x = some (.agg l.toArray)) : IsNew Tryz.prog o a (.cells l.toArray ty) (fun b => .pointer (some ⟨b, 0, none⟩)) :=
 ⟨hg, fun w => by
  have hx := xAw hx
  unfold execOp
  simp only [hop, hx]
  rfl⟩
theorem xJm {n : Nat} (hg : o.guard = none) {x y : Operand} (hop : o.op = .makeSlice 27 x y) (hx : ev a x = some (.int .i64 (n : Int))) (hy : ev a y = some (.int .i64 (n : Int))) (hn : n ≤ 1000000) : IsNew Tryz.prog o a (.cells (xFd (fun _ => 0) n).toArray 24) (fun b => .slice (some ⟨b, 0, none⟩) n n) :=
 ⟨hg, fun w => by
  have hx := xAw hx
  have hy := xAw hy
  unfold execOp
  simp only [hop, hx, hy, make_numsZ n hn, Sem.run_bind, Result.andThen_ok, Sem.run_pure]⟩
theorem hd_build1P {ts : List Nat} {r acc : List Oper} {K : List Oper → Act → Prop} {I : (World → Prop) → Prop} {C : World → Prop} {m : Nat} (hm : m ≠ 2) (hw : Region.wanted o (yielded ops a.tmps) = true) {t : TypeId} {x : Operand} (hop : o.op = .build t #[(0, x)]) {vx v : Value} (hx : ev a x = some vx)
  (hrun : ∀ w, (Instr.build t #[(0, vx)]).run Tryz.prog w = .ok v w) {a' : Act} (ha : a.put o.dst v = a') (h : xBn Tryz.prog ops I C K ts r acc a') : xBn Tryz.prog ops I C K (m :: ts) (o :: r) acc a :=
 xDc hm hw (fun w => by
  have hx := xAw hx
  unfold execOp
  simp only [hop, List.map_toArray, List.map_cons, List.map_nil, hx, hrun, Sem.run_bind, Result.andThen_ok, Sem.run_pure]) ha h
end
end
end Go.Proofs.YtaaahfjpnggkbaaGreatDoor
