import Derived.Test.YtaaahfjpnggkbaaGreatDoorHZ
set_option linter.unusedSimpArgs false
set_option linter.unusedVariables false
set_option maxRecDepth 100000
set_option maxHeartbeats 20000000
namespace Go.Proofs.YtaaahfjpnggkbaaGreatDoor
open Go.RowKit
section
structure IAt (B0 : Nat) (w0 : World) (L : List (Nat × Obj)) (a : Option Addr) (len cap : Nat) (f : Nat → Int) : Prop where
 lec : len ≤ cap
 big : cap ≤ maxLen
 at' : len ≠ 0 → ∃ b o, a = some ⟨b, o, none⟩ ∧ ∀ w, Rep B0 w0 L w → ∀ j, j < len → w.cell? ⟨b, o + j, none⟩ = some (.int .i64 (f j))
section
variable {B0 : Nat} {w0 w : World} {L L' : List (Nat × Obj)} {a : Option Addr} {len cap : Nat} {f : Nat → Int}
theorem IAt.mono (h : IAt B0 w0 L a len cap f) (hL : ∀ w, Rep B0 w0 L' w → Rep B0 w0 L w) : IAt B0 w0 L' a len cap f :=
 ⟨h.lec, h.big, fun hk => by
  obtain ⟨b, o, q1, q2⟩ := h.at' hk
  exact ⟨b, o, q1, fun w hw => q2 w (hL w hw)⟩⟩
theorem IAt.any (h : IAt B0 w0 [] a len cap f) : IAt B0 w0 L a len cap f := h.mono fun w hw => hw.weaken (List.nil_sublist _)
theorem IAt.take (h : IAt B0 w0 L a len cap f) {k : Nat} (hk : k ≤ len) : IAt B0 w0 L a k cap f :=
 ⟨Nat.le_trans hk h.lec, h.big, fun h0 => by
  obtain ⟨b, o, q1, q2⟩ := h.at' (by omega)
  exact ⟨b, o, q1, fun w hw j hj => q2 w hw j (by omega)⟩⟩
theorem xDu {b o : Nat} {v : Value} (h : w.cell? ⟨b, o, none⟩ = some v) : (loadVar 3 ⟨b, o, none⟩).run Tryz.prog w = .ok v w := by
 obtain ⟨d, hu, hd, hi⟩ := (inferInstance : xDp Tryz.prog 3).is
 have hagg : (isAgg 3).run Tryz.prog w = .ok false w := by
  unfold isAgg
  rw [Sem.run_bind, run_underlying hu w]
  cases d <;> simp_all
 have hl : (load ⟨b, o, none⟩).run Tryz.prog w = .ok v w := by
  simp only [load, Sem.run, h]
 unfold loadVar
 rw [Sem.run_bind, hagg]
 simp only [Result.andThen_ok, Bool.false_eq_true, if_false]
 exact hl
end
attribute [local irreducible] Calls Instr.build Instr.buildSlice Instr.makeSlice
section
variable {B0 : Nat} {w0 w : World} {L : List (Nat × Obj)} {a : Option Addr} {n cp : Nat} {f : Nat → Int}
theorem index_any (hA : IAt B0 w0 L a n cp f) (hn : n ≤ 1000000) (v : Int) (hR : Rep B0 w0 L w) :
  Calls Tryz.prog 191 #[.slice a n cp, .int .i64 v] w fun e w' => ∃ r : Int, e = .returned (.int .i64 r) ∧ (0 ≤ r ↔ ∃ j, j < n ∧ f j = v) ∧ Rep B0 w0 L w' := by
 replace hA := Held.mk hA
 go_enter Tryz.func191, Tryz.ntmps191
 go_wp2_with (fail)
 try simp only [Act.put, kA, kB, List.setIfInBounds_toArray]
 refine' xAv (false :: false :: false :: false :: false :: true :: false :: false :: false :: true :: true :: true :: true :: true :: true :: true :: true :: true :: true :: []) (fun (i : Nat) l => l.set 8 (.int .i64 (i : Int))) (fun _ => L) (fun i => n - i) (fun i => i ≤ n ∧ ∀ j, j < i → f j ≠ v) 0 ?h0 ?hO ?hR ?hs
 case h0 => exact xAf rfl rfl rfl
 case hO => exact ⟨Nat.zero_le _, fun j hj => absurd hj (Nat.not_lt_zero _)⟩
 case hR => exact hR
 case hs =>
  clear hR
  intro i tm w hO ht hR K hK
  obtain ⟨hi, hz⟩ := hO
  have g0 : 0 ≤ (i : Int) := by omega
  by_cases hik : i = n
  ·rw [hik] at hz ht
   have t1 : ¬ (n : Int) < (n : Int) := by omega
   have hno : (0 : Int) ≤ -1 ↔ ∃ j, j < n ∧ f j = v := ⟨fun h => absurd h (by decide), fun ⟨j, h1, h2⟩ => absurd h2 (hz j h1)⟩
   replace hno := Held.mk hno
   clear hK hz hik hi g0 hA i
   repeat (first | (obtain ⟨x, tm', e, ht'⟩ := xAc ht; clear ht; subst e; have ht := ht'; clear ht') | (obtain ⟨tm', e, ht'⟩ := xAa ht; clear ht; subst e; have ht := ht'; clear ht'))
   obtain rfl := xAe ht
   clear ht
   go_wp2_with (fail)
   go_ret
   exact ⟨_, rfl, hno.out, hR⟩
  ·have hin : i < n := by omega
   have g1 : (i : Int) < (n : Int) := by omega
   obtain ⟨bb, off, rfl, hx⟩ := hA.out.at' (by omega)
   have ld := xDu (hx w hR i hin)
   by_cases hE : f i = v
   ·have hyes : 0 ≤ (i : Int) ↔ ∃ j, j < n ∧ f j = v := ⟨fun _ => ⟨i, hin, hE⟩, fun _ => g0⟩
    have c1 : (v == f i) = true := by simp; exact hE.symm
    have c2 : v = f i := hE.symm
    generalize f i = fi at *
    replace hyes := Held.mk hyes
    clear hK hz hik hi hx hA hE
    repeat (first | (obtain ⟨x, tm', e, ht'⟩ := xAc ht; clear ht; subst e; have ht := ht'; clear ht') | (obtain ⟨tm', e, ht'⟩ := xAa ht; clear ht; subst e; have ht := ht'; clear ht'))
    obtain rfl := xAe ht
    clear ht
    go_wp2_with (refine' xBr rfl rfl rfl ld ?_)
    go_ret
    exact ⟨_, rfl, hyes.out, hR⟩
   ·have c1 : (v == f i) = false := by simp; exact fun h => hE h.symm
    have c2 : ¬ v = f i := fun h => hE h.symm
    have hz1 : ∀ j, j < i + 1 → f j ≠ v := fun j hj => if h : j = i then h ▸ hE else hz j (by omega)
    have ei : IntKind.i64.wrap ((i : Int) + 1) = (i : Int) + 1 := by rw [IntKind.wrap_i64]; omega
    have ek : ((i + 1 : Nat) : Int) = (i : Int) + 1 := by omega
    have hi1 : i + 1 ≤ n := by omega
    have hmu : n - (i + 1) < n - i := by omega
    replace ek := Held.mk ek
    replace hi1 := Held.mk hi1
    replace hmu := Held.mk hmu
    replace hz1 := Held.mk hz1
    generalize f i = fi at *
    clear hz hik hi hx hA hE
    repeat (first | (obtain ⟨x, tm', e, ht'⟩ := xAc ht; clear ht; subst e; have ht := ht'; clear ht') | (obtain ⟨tm', e, ht'⟩ := xAa ht; clear ht; subst e; have ht := ht'; clear ht'))
    obtain rfl := xAe ht
    clear ht
    go_wp2_with (refine' xBr rfl rfl rfl ld ?_)
    exact hK.out (i + 1) _ _ ⟨hi1.out, hz1.out⟩ hmu.out (by simp only [ek.out]; exact xAf rfl rfl rfl) hR
theorem xJc (hA : IAt B0 w0 L a n cp f) (hn : n ≤ 1000000) (v : Int) (s : Bool) (hs : s = true ↔ ∃ j, j < n ∧ f j = v) (hR : Rep B0 w0 L w) :
  Calls Tryz.prog 119 #[.slice a n cp, .int .i64 v] w fun e w' => e = .returned (.bool s) ∧ Rep B0 w0 L w' := by
 have cI := fun (w : World) (hw : Rep B0 w0 L w) => index_any hA hn v hw
 clear hA
 cases s
 ·have hno : ¬ ∃ j, j < n ∧ f j = v := fun h => absurd (hs.2 h) (by decide)
  have cI' : ∀ w, Rep B0 w0 L w → Calls Tryz.prog 191 #[.slice a n cp, .int .i64 v] w fun e w' => ∃ r : Int, e = .returned (.int .i64 r) ∧ (r < 0) ∧ Rep B0 w0 L w' := fun w hw => (cI w hw).mono fun e w' ⟨r, h1, h2, h3⟩ => ⟨r, h1, by
   have h4 : ¬ 0 ≤ r := fun h => hno (h2.1 h)
   omega, h3⟩
  clear cI hs hno
  go_enter Tryz.func119, Tryz.ntmps119
  go_wp2_with (go_at_call 191; refine (cI' _ hR).mono ?_; clear hR; rintro e w ⟨r, rfl, hr, hR⟩)
  go_ret
  exact ⟨by show Ending.returned (.bool (decide (0 ≤ r))) = _; rw [decide_eq_false (show ¬ 0 ≤ r by omega)], hR⟩
 ·have cI' : ∀ w, Rep B0 w0 L w → Calls Tryz.prog 191 #[.slice a n cp, .int .i64 v] w fun e w' => ∃ r : Int, e = .returned (.int .i64 r) ∧ (0 ≤ r) ∧ Rep B0 w0 L w' := fun w hw => (cI w hw).mono fun e w' ⟨r, h1, h2, h3⟩ => ⟨r, h1, h2.2 (hs.1 rfl), h3⟩
  clear cI hs
  go_enter Tryz.func119, Tryz.ntmps119
  go_wp2_with (go_at_call 191; refine (cI' _ hR).mono ?_; clear hR; rintro e w ⟨r, rfl, hr, hR⟩)
  go_ret
  exact ⟨rfl, hR⟩
end
end
section
noncomputable def xHn (f : Nat → Int) (n : Nat) : List Value := (List.range n).map fun j => .int .i64 (f j)
theorem xIg (f : Nat → Int) (n : Nat) : xHn f (n + 1) = xHn f n ++ [.int .i64 (f n)] := by
 unfold xHn; rw [List.range_succ, List.map_append]; rfl
theorem xDd (f : Nat → Int) (n : Nat) : (xHn f n).length = n := by unfold xHn; simp
theorem rowsI_at (f : Nat → Int) {n j : Nat} (h : j < n) : (xHn f n)[j]? = some (.int .i64 (f j)) := by
 unfold xHn
 rw [List.getElem?_map, List.getElem?_range h]
 rfl
structure GrI where
 a : Option Addr
 cap : Nat
 bl : List (Nat × Obj)
def GrIOk (x : GrI) (n : Nat) (f : Nat → Int) : Prop := (x = ⟨none, 0, []⟩ ∧ n = 0) ∨
 ∃ g, ∃ cur : List Value, x.a = some ⟨g, 0, none⟩ ∧ x.bl = [(g, .cells cur.toArray 3)] ∧ n ≤ x.cap ∧ x.cap ≤ maxLen ∧ cur.length = x.cap ∧ cur.take n = xHn f n
theorem grI_cap {x : GrI} {n : Nat} {f : Nat → Int} (h : GrIOk x n f) : n ≤ x.cap ∧ x.cap ≤ maxLen := by
 rcases h with ⟨rfl, rfl⟩ | ⟨g, cur, ha, hbl, h1, h2, h3, h4⟩
 ·exact ⟨Nat.le_refl _, Nat.zero_le _⟩
 ·exact ⟨h1, h2⟩
theorem info_intT : (Tryz.prog.info? 3).map (fun i => (i.zero.map (fun z => z.cells.size), i.size, i.bytes)) = some (some 1, 1, 8) := by kernel_rfl
theorem xGg : ∃ i z, Tryz.prog.info? 3 = some i ∧ i.zero = some z ∧ z.cells.size = 1 ∧ i.size = 1 ∧ i.bytes = 8 := by
 have h := info_intT
 cases hi : Tryz.prog.info? 3 with
 | none => rw [hi] at h; cases h
 | some i =>
  rw [hi] at h
  simp only [Option.map_some, Option.some.injEq, Prod.mk.injEq] at h
  obtain ⟨h1, h2, h3⟩ := h
  cases hz : i.zero with
  | none => rw [hz] at h1; cases h1
  | some z => rw [hz] at h1; exact ⟨i, z, rfl, hz, by simpa using h1, h2, h3⟩
theorem make_ints (c : Nat) (hc : c ≤ 1000001) : ∃ l : List Value, l.length = c ∧ ∀ w : World, (Instr.makeSlice 67 (.int .i64 0) (.int .i64 (c : Int))).run Tryz.prog w = .ok (.slice (some ⟨w.heap.size, 0, none⟩) 0 c) (w.alloc (.cells l.toArray 3)) := by
 obtain ⟨i, z, hi, hz, hzs, hsize, hby⟩ := xGg
 refine ⟨(madeCells z.cells (c * 1)).toList, by simp [size_madeCells], fun w => ?_⟩
 have := run_make (P := Tryz.prog) w 67 3 i z Tryz.underlying67 hi hz .i64 .i64 0 (c : Int) (by decide) (by omega) (by rw [hby]; omega) (by omega)
 rw [this, hsize]
 simp
theorem build_ints1 (v : Int) (w : World) : (Instr.buildSlice 67 1 #[(0, .int .i64 v)]).run Tryz.prog w = .ok (.slice (some ⟨w.heap.size, 0, none⟩) 1 1) (w.alloc (.cells [Value.int .i64 v].toArray 3)) := by
 go_simp
theorem xGx {o : Oper} {a : Act} {x : Operand} {m : Int} (hg : o.guard = none) (hop : o.op = .buildSlice 67 1 #[(0, x)]) (hx : ev a x = some (.int .i64 m)) : IsNew Tryz.prog o a (.cells [Value.int .i64 m].toArray 3) (fun b => .slice (some ⟨b, 0, none⟩) 1 1) :=
 ⟨hg, fun w => by
  unfold execOp
  simp only [hop, List.map_toArray, List.map_cons, List.map_nil, xAw hx, build_ints1 m w, Sem.run_bind, Result.andThen_ok, Sem.run_pure]⟩
section
variable {w w0 : World} {B0 : Nat} {R : List (Nat × Obj)} {ops : Array Oper} {rest : List Oper} {o : Oper} {a : Act} {Q : Exit → Act → World → Prop}
theorem xGm {L' : List (Nat × Obj) → List (Nat × Obj)} {x : GrI} {n : Nat} {f : Nat → Int} {b : Nat} {v : Int} (hR : Rep B0 w0 ((b, .cells [Value.int .i64 v].toArray 3) :: L' x.bl) w) (hp : ∀ l, (L' l).Perm (l ++ R)) (hgd : o.guard = none) {s y : Operand} (ho : o.op = .call { callee := .builtin .append, args := #[s, y], argTypes := #[67, 67] })
  (hs : a.eval s = .slice x.a n x.cap) (hy : a.eval y = .slice (some ⟨b, 0, none⟩) 1 1) (hg : GrIOk x n f) (hv : f n = v) (hbig : n ≤ 1000000)
  (h : ∀ (x' : GrI) w', GrIOk x' (n + 1) f → Rep B0 w0 (L' x'.bl) w' → wpList Tryz.prog ops Q rest (a.put o.dst (.slice x'.a (n + 1 : Nat) x'.cap)) w') : wpList Tryz.prog ops Q (o :: rest) a w := by
 subst hv
 obtain ⟨i, z, hi, hz, hzs, hsize, hby⟩ := xGg
 have hone : ∀ u ∈ [Value.int .i64 (f n)], u.oneCell' = true := fun u hu => by rw [List.mem_singleton.1 hu]; rfl
 have hnews : ∀ j u, [Value.int .i64 (f n)][j]? = some u → w.cell? ((⟨b, 0, none⟩ : Addr).add j) = some u := fun j u hj => by
  rw [xBw, Nat.zero_add]
  exact hR.cell (.head _) hj
 have hR0 : Rep B0 w0 (x.bl ++ R) w := hR.dropN.permN (hp x.bl)
 have hm63 : n + 1 ≤ maxLen := by unfold maxLen; omega
 have hmb : (n + 1) * 8 ≤ 140737488355328 := by omega
 rcases hg with ⟨rfl, rfl⟩ | ⟨g, cur, ha, hbl, h1, h2, h3, h4⟩
 ·refine wpList_append_own_at (P := Tryz.prog) w hgd s y 67 ho B0 3 i z 1 8 Tryz.underlying67 hi hz hsize hby hzs (by decide) (.slice none 0 0) 0 [] hs ⟨by simp, .inl ⟨rfl, rfl⟩⟩ _ 1 1 [Value.int .i64 (f 0)] hy rfl hnews hone hm63 hmb hR.le ?_
  intro v' w' hO hgr hiff hat
  obtain ⟨hl', ⟨hv, _⟩ | ⟨g', cap', cur', rfl, hB, hh, k2, k3, k4, k5⟩⟩ := hO
  ·exact absurd (hiff.1 hv).2 (by decide)
  ·have hR' := hR0.growN hgr (fun r hr => by cases hr)
   have hgg : g' = w.heap.size := by
    rcases hat with hat | hat
    ·cases hat
    ·exact Option.some.inj hat
   have hR2 := hR'.addN hB hh (fun p hp e => by
    have := hR0.lt hp
    omega)
   refine h ⟨some ⟨g', 0, none⟩, cap', [(g', .cells cur'.toList.toArray 3)]⟩ w' (.inr ⟨g', cur'.toList, rfl, rfl, k2, k3, by simpa using k4, ?_⟩) (Rep.permN ?_ (hp _).symm)
   ·simpa [xHn] using k5
   ·simpa using hR2
 ·rw [hbl] at hR0
  have hR1 : Rep B0 w0 ((g, .cells cur.toArray 3) :: R) w := hR0
  rw [ha] at hs
  refine wpList_append_own_at (P := Tryz.prog) w hgd s y 67 ho B0 3 i z 1 8 Tryz.underlying67 hi hz hsize hby hzs (by decide) _ n (xHn f n) hs ⟨by rw [xDd]; omega, .inr ⟨g, x.cap, cur.toArray, rfl, (hR1.own _ (.head _)).1, (hR1.own _ (.head _)).2, h1, h2, by simpa using h3, by simpa using h4⟩⟩ _ 1 1 [Value.int .i64 (f n)] hy rfl hnews hone hm63 hmb hR.le ?_
  intro v' w' hO hgr hiff hat
  obtain ⟨hl', ⟨hv, _⟩ | ⟨g', cap', cur', rfl, hB, hh, k2, k3, k4, k5⟩⟩ := hO
  ·exact absurd (hiff.1 hv).2 (by decide)
  ·have hR' := hR1.dropN.growN hgr (fun r hr => by
    obtain rfl : g = r := Option.some.inj hr
    exact ⟨(hR1.own _ (.head _)).1, hR1.apartN⟩)
   have hR2 := hR'.addN hB hh (fun p hp e => by
    rcases hat with hat | hat
    ·have hgg : g' = g := Option.some.inj hat
     exact hR1.apartN p hp (e.trans hgg)
    ·have hgg : g' = w.heap.size := Option.some.inj hat
     have := hR1.lt (.tail _ hp)
     omega)
   refine h ⟨some ⟨g', 0, none⟩, cap', [(g', .cells cur'.toList.toArray 3)]⟩ w' (.inr ⟨g', cur'.toList, rfl, rfl, k2, k3, by simpa using k4, ?_⟩) (Rep.permN ?_ (hp _).symm)
   ·rw [xIg, ← k5]; simp
   ·simpa using hR2
end
structure IOwn (cap : Nat) (cur : List Value) (n : Nat) (f : Nat → Int) : Prop where
 le : n ≤ cap
 big : cap ≤ maxLen
 len : cur.length = cap
 is : cur.take n = xHn f n
theorem IOwn.cell {cap : Nat} {cur : List Value} {n : Nat} {f : Nat → Int} (h : IOwn cap cur n f) {j : Nat} (hj : j < n) : cur[j]? = some (.int .i64 (f j)) := by
 rw [← rowsI_at f hj, ← h.is, List.getElem?_take, if_pos hj]
theorem IOwn.at {B0 : Nat} {w0 : World} {L : List (Nat × Obj)} {g cap : Nat} {cur : List Value} {n m : Nat} {f : Nat → Int} (h : IOwn cap cur n f) (hm : (g, Obj.cells cur.toArray 3) ∈ L) (hmn : m ≤ n) : IAt B0 w0 L (some ⟨g, 0, none⟩) m cap f :=
 ⟨Nat.le_trans hmn h.le, h.big, fun _ => ⟨g, 0, rfl, fun w hw j hj => by
  rw [Nat.zero_add]
  exact hw.cell hm (h.cell (by omega))⟩⟩
theorem grI_own {x : GrI} {n : Nat} {f : Nat → Int} (h : GrIOk x n f) (hn : n ≠ 0) : ∃ g, ∃ cur : List Value, x.a = some ⟨g, 0, none⟩ ∧ x.bl = [(g, .cells cur.toArray 3)] ∧ IOwn x.cap cur n f := by
 rcases h with ⟨_, h⟩ | ⟨g, cur, h1, h2, h3, h4, h5, h6⟩
 ·exact absurd h hn
 ·exact ⟨g, cur, h1, h2, h3, h4, h5, h6⟩
end
section
noncomputable def twI : (Nat → Int) → Nat → Nat → Int := opq fun f n j => if j < n then f j else 77
theorem twI_lt (f : Nat → Int) {n j : Nat} (h : j < n) : twI f n j = f j := by unfold twI; rw [xBs]; simp [h]
theorem twI_end (f : Nat → Int) (n : Nat) : twI f n n = 77 := by unfold twI; rw [xBs]; simp
attribute [local irreducible] Calls Instr.build Instr.buildSlice
section
variable {B0 : Nat} {w0 w : World} {L : List (Nat × Obj)}
theorem twin_ints {a : Option Addr} {n cp : Nat} {f : Nat → Int} (hv : IAt B0 w0 L a n cp f) (hn : n ≤ 1000) (hR : Rep B0 w0 L w) :
  Calls Tryz.prog 22 #[.slice a n cp] w fun e w' => ∃ g cap, e = .returned (.slice (some ⟨g, 0, none⟩) n cap) ∧ ∃ cur, IOwn cap cur (n + 1) (twI f n) ∧ Rep B0 w0 ((g, .cells cur.toArray 3) :: L) w' := by
 obtain ⟨n1, hn1⟩ : ∃ x, n + 1 = x := ⟨_, rfl⟩
 have f1 : IntKind.i64.wrap ((n : Int) + 1) = (n1 : Int) := by rw [IntKind.wrap_i64]; omega
 obtain ⟨l0, hl0, hmk⟩ := make_ints n1 (by omega)
 replace hv := Held.mk hv
 replace hn1 := Held.mk hn1
 have e7 : twI f n n = 77 := twI_end f n
 replace e7 := Held.mk e7
 go_enter Tryz.func22, Tryz.ntmps22
 go_wp2_with (refine' xCv hR rfl rfl rfl rfl hmk ?_; clear hR; intro blk w hR)
 refine' xAv (false :: false :: false :: false :: false :: false :: false :: false :: false :: true :: true :: true :: true :: true :: true :: true :: true :: true :: true :: true :: true :: true :: false :: false :: false :: false :: false :: false :: []) (fun (x : Nat × GrI) l => (l.set 3 (.slice x.2.a x.1 x.2.cap)).set 4 (.int .i64 (x.1 : Int))) (fun x => x.2.bl ++ L) (fun x => n - x.1) (fun x => x.1 ≤ n ∧ GrIOk x.2 x.1 (twI f n)) (0, ⟨some ⟨blk, 0, none⟩, n1, [(blk, .cells l0.toArray 3)]⟩) ?h0 ?hO ?hR ?hs
 case h0 => exact xAf rfl rfl rfl
 case hO => exact ⟨Nat.zero_le _, .inr ⟨blk, l0, rfl, rfl, Nat.zero_le _, by show n1 ≤ maxLen; unfold maxLen; have := hn1.out; omega, hl0, rfl⟩⟩
 case hR => exact hR
 case hs =>
  clear hR hl0 hmk
  intro x tm w hO ht hR K hK
  obtain ⟨i, x⟩ := x
  obtain ⟨hi, hx⟩ := hO
  simp only at hi hx ht hR
  have g0 : 0 ≤ (i : Int) := by omega
  by_cases hik : i = n
  ·subst hik
   clear hK
   have t1 : ¬ (i : Int) < (i : Int) := by omega
   have hbig : i ≤ 1000000 := by omega
   repeat (first | (obtain ⟨x, tm', e, ht'⟩ := xAc ht; clear ht; subst e; have ht := ht'; clear ht') | (obtain ⟨tm', e, ht'⟩ := xAa ht; clear ht; subst e; have ht := ht'; clear ht'))
   obtain rfl := xAe ht
   clear ht
   go_wp2_with (first | (refine' xBz hR (xGx rfl rfl rfl) ?_; clear hR; intro bt w hR) | (refine' xGm (L' := fun l => l ++ L) hR (fun l => List.Perm.refl _) rfl rfl rfl rfl hx e7.out hbig ?_; clear hR hx; intro x' w hx hR; have cx := grI_cap hx; obtain ⟨g', cur', hxa, hxb, hxo⟩ := grI_own hx (Nat.succ_ne_zero _); obtain ⟨xa, cap', xb⟩ := x'; simp only at hxa hxb hxo hR cx; subst hxa hxb; have c5 : (i : Int) ≤ (cap' : Int) := Int.ofNat_le.2 (Nat.le_of_succ_le cx.1); have c6 : ¬ cap' = 0 := fun h => Nat.not_succ_le_zero i (h ▸ cx.1)))
   go_ret
   exact ⟨g', cap', rfl, cur', hxo, hR⟩
  ·have g1 : (i : Int) < (n : Int) := by omega
   have hin : i < n := by omega
   obtain ⟨bb, off, rfl, hmr⟩ := hv.out.at' (by omega)
   have hld := xDu (hmr w (hR.weaken (List.sublist_append_right _ _)) i hin)
   have e8 : twI f n i = f i := twI_lt f hin
   generalize f i = fi at *
   have e1 : IntKind.i64.wrap ((i : Int) + 1) = (i : Int) + 1 := by rw [IntKind.wrap_i64]; omega
   have ek : ((i + 1 : Nat) : Int) = (i : Int) + 1 := by omega
   have hbig : i ≤ 1000000 := by omega
   replace ek := Held.mk ek
   replace e8 := Held.mk e8
   clear hmr hv
   repeat (first | (obtain ⟨x, tm', e, ht'⟩ := xAc ht; clear ht; subst e; have ht := ht'; clear ht') | (obtain ⟨tm', e, ht'⟩ := xAa ht; clear ht; subst e; have ht := ht'; clear ht'))
   obtain rfl := xAe ht
   clear ht
   go_wp2_with (first | (refine' xBr rfl rfl rfl hld ?_) | (refine' xBz hR (xGx rfl rfl rfl) ?_; clear hR; intro bt w hR) | (refine' xGm (L' := fun l => l ++ L) hR (fun l => List.Perm.refl _) rfl rfl rfl rfl hx e8.out hbig ?_; clear hR hx; intro x' w hx hR))
   exact hK.out (i + 1, x') _ _ ⟨by omega, hx⟩ (by show n - (i + 1) < n - i; omega) (by simp only [ek.out]; exact xAf rfl rfl rfl) hR
theorem left_ints {g cap n cp : Nat} {cur : List Value} {a : Option Addr} {f : Nat → Int} (ho : IOwn cap cur (n + 1) (twI f n)) (hm : (g, Obj.cells cur.toArray 3) ∈ L) (hv : IAt B0 w0 L a n cp f) (hn : n ≤ 1000) (hR : Rep B0 w0 L w) :
  Calls Tryz.prog 29 #[.slice (some ⟨g, 0, none⟩) n cap, .slice a n cp] w fun e w' => e = .returned (.bool true) ∧ Rep B0 w0 L w' := by
 obtain ⟨n1, hn1⟩ : ∃ x, n + 1 = x := ⟨_, rfl⟩
 have hcap := ho.le
 have hcm := ho.big
 unfold maxLen at hcm
 have f1 : IntKind.i64.wrap ((n : Int) + 1) = (n1 : Int) := by rw [IntKind.wrap_i64]; omega
 have f2 : ¬ (cap : Int) ≤ (n : Int) := by omega
 have f3 : decide ((cap : Int) ≤ (n : Int)) = false := decide_eq_false f2
 have f4 : ¬ cap = 0 := by omega
 have f5 : (n1 : Int) ≤ (cap : Int) := by omega
 have f6 : 0 ≤ (n1 : Int) := by omega
 have f7 : (n : Int) < (n1 : Int) := by omega
 have f8 : 0 ≤ (n : Int) := by omega
 have rt : ∀ w, Rep B0 w0 L w → ∀ j, j < n + 1 → w.cell? ⟨g, j, none⟩ = some (.int .i64 (twI f n j)) := fun w hw j hj => hw.cell hm (ho.cell hj)
 have lds := fun (w : World) (hw : Rep B0 w0 L w) => xDu (rt w hw n (by omega))
 rw [twI_end] at lds
 replace rt := Held.mk rt
 replace hv := Held.mk hv
 replace hn1 := Held.mk hn1
 clear ho hm hcap hcm
 go_enter Tryz.func29, Tryz.ntmps29
 go_wp2_with (fail)
 try simp only [Act.put, kA, kB, List.setIfInBounds_toArray]
 refine' xBo hR (false :: false :: false :: false :: false :: false :: false :: false :: false :: false :: false :: false :: false :: false :: false :: false :: false :: false :: false :: true :: true :: true :: true :: true :: true :: true :: true :: true :: true :: true :: true :: true :: true :: true :: false :: false :: false :: false :: false :: false :: false :: false :: false :: false :: false :: []) (fun (i : Nat) l => l.set 5 (.int .i64 (i : Int))) (fun i => n - i) (fun i => i ≤ n) 0 ?h0 ?hO ?hs
 case h0 => exact xAf rfl rfl rfl
 case hO => exact Nat.zero_le _
 case hs =>
  clear hR
  intro i tm w hi ht hR K hK
  have g0 : 0 ≤ (i : Int) := by omega
  by_cases hik : i = n
  ·subst hik
   have t1 : ¬ (i : Int) < (i : Int) := by omega
   have t1' : decide ((i : Int) < (i : Int)) = false := decide_eq_false t1
   have ldw := lds w hR
   clear hK hi lds rt hv
   repeat (first | (obtain ⟨x, tm', e, ht'⟩ := xAc ht; clear ht; subst e; have ht := ht'; clear ht') | (obtain ⟨tm', e, ht'⟩ := xAa ht; clear ht; subst e; have ht := ht'; clear ht'))
   obtain rfl := xAe ht
   clear ht
   go_wp2_with (refine' xBr rfl rfl rfl ldw ?_)
   go_ret
   exact ⟨rfl, hR⟩
  ·have hik' : i < n := by omega
   have g1 : (i : Int) < (n : Int) := by omega
   obtain ⟨bb, off, rfl, hx⟩ := hv.out.at' (by omega)
   have ld1 := fun (w : World) (hw : Rep B0 w0 L w) => xDu (rt.out w hw i (by omega))
   have ld2 := fun (w : World) (hw : Rep B0 w0 L w) => xDu (hx w hw i hik')
   rw [twI_lt f hik'] at ld1
   generalize f i = fi at *
   have ei : IntKind.i64.wrap ((i : Int) + 1) = ((i + 1 : Nat) : Int) := by rw [IntKind.wrap_i64]; omega
   have hi1 : i + 1 ≤ n := by omega
   have hmu : n - (i + 1) < n - i := by omega
   replace hi1 := Held.mk hi1
   replace hmu := Held.mk hmu
   clear hi hik hik' hx rt hv lds
   repeat (first | (obtain ⟨x, tm', e, ht'⟩ := xAc ht; clear ht; subst e; have ht := ht'; clear ht') | (obtain ⟨tm', e, ht'⟩ := xAa ht; clear ht; subst e; have ht := ht'; clear ht'))
   obtain rfl := xAe ht
   clear ht
   go_wp2_with (fail)
   refine xAd hR [0, 0, 0, 0, 0, 0, 0, 0, 0] [] xBd (by kernel_rfl) rfl rfl (fun K hK => ?_)
   clear hR
   repeat ((first | (refine' xAj (by decide) rfl (.inl rfl) rfl ?ha ?_) | ((first | refine' xAg (by decide) rfl rfl rfl rfl (fun w => ?hq) ?ha ?_ | refine' xAm (by decide) rfl rfl rfl rfl (fun w => ?hq) ?ha ?_); (case hq => go_simp; try rfl)) | (refine' xAn rfl rfl rfl ld1 ?ha ?_; (case ha => simp only [kP, kQ, kA, kB]; try rfl)) | (refine' xAn rfl rfl rfl ld2 ?ha ?_; (case ha => simp only [kP, kQ, kA, kB]; try rfl))); try (case ha => simp only [kP, kQ, kA, kB]; try rfl))
   refine xAo (hK _ _ ?_)
   clear hK K
   refine xAr (fun Q hQ => ?_)
   try simp only [List.nil_append, List.cons_append]
   repeat ((fail); (case hk => intro p hp; first | exact absurd hp List.not_mem_nil | (obtain rfl := List.mem_singleton.1 hp; repeat (first | exact List.Mem.head _ | with_reducible assumption | apply mC))); (case ha => simp only [kP, kQ, kA, kB]; try rfl))
   refine xAs (fun w hR => hQ _ _ ?_)
   clear hQ Q
   go_wp2_with (fail)
   exact hK.out (i + 1) _ _ hi1.out hmu.out (xAf rfl rfl rfl) hR
end
end
end Go.Proofs.YtaaahfjpnggkbaaGreatDoor
