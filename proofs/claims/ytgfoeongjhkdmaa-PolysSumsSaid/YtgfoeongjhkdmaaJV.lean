/- append of a whole slice of long numbers to nil. -/
import Derived.Deep.Upon
import Derived.Test.YtgfoeongjhkdmaaJQ
import Derived.Test.YtgfoeongjhkdmaaJA
import Derived.Test.YtgfoeongjhkdmaaJM
set_option linter.unusedVariables false
set_option linter.unusedSimpArgs false
namespace Go.Proofs.Ytgfoeongjhkdmaa
open Go.RowKit
theorem rowsN_cells (f : Nat → Nat) : ∀ n, ∀ u ∈ xCk f n, u.oneCell' = true
  | 0, u, hu => by unfold xCk at hu; simp at hu
  | n + 1, u, hu => by
    rw [rowsN_succ] at hu
    rcases List.mem_append.1 hu with hu | hu
    · exact rowsN_cells f n u hu
    · exact nl_cells _ u hu
section
variable {B0 : Nat} {w0 w : World} {R : List (Nat × Obj)} {a : Option Addr} {n cp : Nat} {f : Nat → Nat}
theorem appNil_run {ty : TypeId} (hA : NAt B0 w0 R a n cp f) (hn : n ≤ 1000) (hR : Rep B0 w0 R w) :
    ∃ (x' : GrN) (w' : World), (Builtin.append_ #[27, 27] ty #[.slice none 0 0, .slice a n cp]).run Try.prog w = .ok (.slice x'.a n x'.cap) w' ∧ GrNOk x' n f ∧ Rep B0 w0 (x'.bl ++ R) w' := by
  obtain ⟨i, z, hi, hz, hzs, hsize, hby⟩ := info_numP
  by_cases h0 : n = 0
  · subst h0
    refine ⟨⟨none, 0, []⟩, w, ?_, grN_zero f, hR⟩
    refine run_append_nothing w 27 27 ty 24 i Try.underlying27 hi none 0 0 (Nat.le_refl _) _ ?_
    cases a with
    | none => exact Src.ofNil w Try.underlying27 cp
    | some ad => exact Src.ofSlice w Try.underlying27 ad 0 cp [] (by simp) (fun j u hj => by simp at hj) (fun u hu => by cases hu)
  · obtain ⟨bb, off, rfl, hy⟩ := hA.at' h0
    have hnews : ∀ j u, (xCk f n)[j]? = some u → w.cell? ((⟨bb, off, none⟩ : Addr).add j) = some u := fun j u hj => by
      have hlt : j < n * 4 := by
        have := (List.getElem?_eq_some_iff.1 hj).1
        rwa [xBq] at this
      have ej : j = j / 4 * 4 + j % 4 := by omega
      rw [ej, rowsN_at f n (j / 4) (j % 4) (by omega) (by omega)] at hj
      have := hy w hR (j / 4) (by omega) (j % 4) u hj
      rw [addr_none8, ej, ← Nat.add_assoc]
      exact this
    have hm63 : 0 + n ≤ maxLen := by unfold maxLen; omega
    have hmb : (0 + n) * 32 ≤ 140737488355328 := by omega
    obtain ⟨v', w', hr, hO, hgr, hiff, hat⟩ := run_append_own_at (P := Try.prog) w B0 27 ty 24 i z 4 32 Try.underlying27 hi hz hsize hby hzs (by decide) (.slice none 0 0) 0 [] ⟨by simp, .inl ⟨rfl, rfl⟩⟩ ⟨bb, off, none⟩ n cp (xCk f n) (xBq f n) hnews (rowsN_cells f n) hm63 hmb hR.le
    rw [Nat.zero_add] at hO
    obtain ⟨hl', ⟨hv, _⟩ | ⟨g', cap', cur', rfl, hB, hh, k2, k3, k4, k5⟩⟩ := hO
    · exact absurd (hiff.1 hv).2 h0
    · have hR' := hR.growN hgr (fun r hr => by cases hr)
      have hgg : g' = w.heap.size := by
        rcases hat with hat | hat
        · cases hat
        · exact Option.some.inj hat
      have hR2 := hR'.addN hB hh (fun p hp e => by
        have := hR.lt hp
        omega)
      refine ⟨⟨some ⟨g', 0, none⟩, cap', [(g', .cells cur'.toList.toArray 24)]⟩, w', hr, .inr ⟨g', cur'.toList, rfl, rfl, k2, k3, by simpa using k4, ?_⟩, ?_⟩
      · rw [k5]; rfl
      · simpa using hR2
theorem wpList_appendAllN {ops : Array Oper} {rest : List Oper} {o : Oper} {ac : Act} {Q : Exit → Act → World → Prop} (hR : Rep B0 w0 R w) (hgd : o.guard = none) {s y : Operand} (ho : o.op = .call { callee := .builtin .append, args := #[s, y], argTypes := #[27, 27] })
    (hs : ac.eval s = .slice none 0 0) (hy : ac.eval y = .slice a n cp) (hA : NAt B0 w0 R a n cp f) (hn : n ≤ 1000)
    (h : ∀ (x' : GrN) w', GrNOk x' n f → Rep B0 w0 (x'.bl ++ R) w' → wpList Try.prog ops Q rest (ac.put o.dst (.slice x'.a n x'.cap)) w') : wpList Try.prog ops Q (o :: rest) ac w :=
  wpList_plain hgd fun _ hK => by
    obtain ⟨x', w', hr, hx, hR'⟩ := appNil_run (ty := o.type) hA hn hR
    unfold Oper.wp execOp
    simp only [ho, resolve, invoke, builtin, Sem.run_bind, Sem.run_pure, Result.andThen_ok, List.map_toArray, List.map_cons, List.map_nil, hs, hy, hr]
    exact hK _ _ (h x' w' hx hR')
end
end Go.Proofs.Ytgfoeongjhkdmaa
namespace Go.Proofs.Ytgfoeongjhkdmaa
open Go.ChangeShapes Go.WideShapes Go.ChangeAt Go.RowKit
noncomputable def numD3 {H : Type} (a b c : Nat) : DataW H := .agg [numD a, numD b, numD c]
set_option maxRecDepth 100000 in
theorem cells_num3 : Try.prog.cellsOf 41 = 12 := by kernel_rfl
set_option maxRecDepth 100000 in
theorem trod_num {H : Type} {enc : TypeId × Value → H} {W : World} {base fuel : Nat} {sp : Nat → Bool} {held : Bool} {cs : List Value} {y : DataW H × List MemPlace} (hl : cs.length = 4) (hf : DataW.trod enc Try.prog W base sp held fuel 24 cs = some y) :
    ∃ a, a < B ∧ cs = nl a ∧ y = (numD a, []) := by
  obtain ⟨c0, c1, c2, c3, rfl⟩ := list4 cs (by simpa using hl)
  obtain ⟨y0, y1, y2, y3, m, hx, hy0, hy1, hy2, hy3⟩ := trod_array4 Try.underlying24 cells_u64 hf
  obtain ⟨x0, e0, rfl, w0⟩ := DataW.trod_int Try.underlying22 hy0
  obtain ⟨x1, e1, rfl, w1⟩ := DataW.trod_int Try.underlying22 hy1
  obtain ⟨x2, e2, rfl, w2⟩ := DataW.trod_int Try.underlying22 hy2
  obtain ⟨x3, e3, rfl, w3⟩ := DataW.trod_int Try.underlying22 hy3
  simp at e0 e1 e2 e3
  subst e0 e1 e2 e3
  subst hx
  obtain ⟨n0, rfl⟩ := Int.eq_ofNat_of_zero_le (wf_u64 w0).1
  obtain ⟨n1, rfl⟩ := Int.eq_ofNat_of_zero_le (wf_u64 w1).1
  obtain ⟨n2, rfl⟩ := Int.eq_ofNat_of_zero_le (wf_u64 w2).1
  obtain ⟨n3, rfl⟩ := Int.eq_ofNat_of_zero_le (wf_u64 w3).1
  have b0 := (wf_u64 w0).2
  have b1 := (wf_u64 w1).2
  have b2 := (wf_u64 w2).2
  have b3 := (wf_u64 w3).2
  have e := nl_ofW n0 n1 n2 n3 (by omega) (by omega) (by omega) (by omega)
  refine ⟨ofW n0 n1 n2 n3, ofW_lt _ _ _ _ (by omega) (by omega) (by omega) (by omega), e.symm, ?_⟩
  unfold nl at e
  simp only [List.cons.injEq, Value.int.injEq, true_and, and_true] at e
  obtain ⟨k0, k1, k2, k3⟩ := e
  unfold numD
  rw [k0, k1, k2, k3]
  simp
set_option maxRecDepth 100000 in
theorem open_num3 {H : Type} {enc : TypeId × Value → H} {W : World} {base b0 : Nat} {r : Reach} {sp : Nat → Bool} {held : Bool} {v : Value} {d : DataW H} {ps : List MemPlace} (hval : Value.okWide Try.prog W r b0 41 v) (hd : DataW.Trod enc Try.prog W base sp held 41 v d ps) :
    ∃ a b c, a < B ∧ b < B ∧ c < B ∧ v = num3 a b c ∧ d = numD3 a b c ∧ ps = [] := by
  obtain ⟨cs, rfl, hsz, _⟩ : ∃ cs, v = .agg cs ∧ cs.size = Try.prog.cellsOf 41 ∧ Row.okWide Try.prog W r b0 41 cs := by
    simpa [Value.okWide, Try.underlying41] using hval
  rw [cells_num3] at hsz
  obtain ⟨l⟩ := cs
  have hl : l.length = 12 := by simpa using hsz
  obtain ⟨fuel, hf⟩ := hd
  change DataW.trod enc Try.prog W base sp held fuel 41 l = some (d, ps) at hf
  obtain ⟨xs, m, _, hx, _, hn, hi⟩ := DataW.trod_array Try.underlying41 hf
  rw [cells_num] at hi
  obtain ⟨x0, x1, x2, rfl⟩ : ∃ x0 x1 x2, xs = [x0, x1, x2] := by
    match xs, hn with
    | [x0, x1, x2], _ => exact ⟨x0, x1, x2, rfl⟩
  have h0 := hi 0 (by decide)
  have h1 := hi 1 (by decide)
  have h2 := hi 2 (by decide)
  have e : l = (l.drop (0 * 4)).take 4 ++ ((l.drop (1 * 4)).take 4 ++ (l.drop (2 * 4)).take 4) := by
    have t2 : (l.drop 8).take 4 = l.drop 8 := List.take_of_length_le (by simp; omega)
    have t1 : l.drop 4 = (l.drop 4).take 4 ++ (l.drop 4).drop 4 := (List.take_append_drop 4 (l.drop 4)).symm
    rw [List.drop_drop] at t1
    show l = (l.drop 0).take 4 ++ ((l.drop 4).take 4 ++ (l.drop 8).take 4)
    rw [t2, ← t1, List.drop_zero, List.take_append_drop]
  obtain ⟨a, la, ea, rfl⟩ := trod_num (by simp; omega) h0
  obtain ⟨b, lb, eb, rfl⟩ := trod_num (by simp; omega) h1
  obtain ⟨c, lc, ec, rfl⟩ := trod_num (by simp; omega) h2
  rw [ea, eb, ec] at e
  simp only [Prod.mk.injEq] at hx
  obtain ⟨rfl, rfl⟩ := hx
  exact ⟨a, b, c, la, lb, lc, by rw [e]; rfl, rfl, by simp⟩
set_option maxRecDepth 100000 in
theorem shut_num3 {H : Type} {enc : TypeId × Value → H} {W : World} {base : Nat} {sp : Nat → Bool} {held : Bool} (a b c : Nat) : DataW.Trod enc Try.prog W base sp held 41 (num3 a b c) (numD3 a b c) [] :=
  ⟨3, by
    unfold num3 nl3 numD3 numD
    simp [DataW.trod, Value.cells, Try.underlying41, Try.underlying24, Try.underlying22, cells_num3, cells_num, cells_u64, wf_wd, show List.range 4 = [0, 1, 2, 3] from rfl, show List.range 3 = [0, 1, 2] from rfl]⟩
end Go.Proofs.Ytgfoeongjhkdmaa
namespace Go.Proofs.Ytgfoeongjhkdmaa
open Go.RowKit
section
variable {q n : Nat} {P Q : Nat → Nat} {x c : Nat}
theorem sums_add (h1 : 1 < q) (hP : ∀ j, j < n → P j < q) (hQ : ∀ j, j < n → Q j < q) : atN q (fun j => (P j + Q j) % q) n x = (atN q P n x + atN q Q n x) % q := by
  haveI : NeZero q := ⟨by omega⟩
  refine fi_inj (q := q) (atN_lt h1 _ _ _) (Nat.mod_lt _ (by omega)) ?_
  rw [fi_addN, fi_atN h1 hP, fi_atN h1 hQ, fi_atN h1 (fun j _ => Nat.mod_lt _ (by omega)), ← H_add]
  exact H_congr (fun j _ => fi_addN _ _) _
theorem sums_mul (h1 : 1 < q) (hP : ∀ j, j < n → P j < q) : atN q (fun j => mulN (P j) c q) n x = mulN (atN q P n x) c q := by
  haveI : NeZero q := ⟨by omega⟩
  refine fi_inj (q := q) (atN_lt h1 _ _ _) (mul_lt' h1 _ _) ?_
  rw [fi_mulN, fi_atN h1 hP, fi_atN h1 (fun j _ => mul_lt' h1 _ _), ← H_mul]
  exact H_congr (fun j _ => fi_mulN _ _) _
noncomputable def powS (q x : Nat) : Nat → Nat
  | 0 => sOf q 1
  | i + 1 => mulN (powS q x i) x q
theorem powS_lt (h1 : 1 < q) (x : Nat) : ∀ i, powS q x i < q
  | 0 => sOf_lt h1 1
  | i + 1 => mul_lt' h1 _ _
theorem fi_powS [NeZero q] (h1 : 1 < q) (x : Nat) : ∀ i, fi q (powS q x i) = fi q x ^ i
  | 0 => by rw [powS, fi_one h1]; grind
  | i + 1 => by rw [powS, fi_mulN, fi_powS h1 x i]; grind
def endN (n : Nat) (P : Nat → Nat) (c j : Nat) : Nat := if j < n then P j else c
theorem sums_last (h1 : 1 < q) (hP : ∀ j, j < n → P j < q) (hc : c < q) : atN q (endN n P c) (n + 1) x = (atN q P n x + mulN c (powS q x n) q) % q := by
  haveI : NeZero q := ⟨by omega⟩
  have hl : ∀ j, j < n + 1 → endN n P c j < q := fun j hj => by
    unfold endN
    split
    · rename_i hh; exact hP j hh
    · exact hc
  refine fi_inj (q := q) (atN_lt h1 _ _ _) (Nat.mod_lt _ (by omega)) ?_
  rw [fi_addN, fi_mulN, fi_powS h1, fi_atN h1 hP, fi_atN h1 hl, H_last]
  rw [H_congr (P := fun j => fi q (endN n P c j)) (Q := fun j => fi q (P j)) (fun j hj => by show fi q (endN n P c j) = _; unfold endN; rw [if_pos hj])]
  have e : endN n P c n = c := by unfold endN; rw [if_neg (Nat.lt_irrefl n)]
  rw [e]
theorem moved_u (h1 : 1 < q) {f : Nat → Nat} (hf : ∀ j, j < n → f j < q) (z : Nat) {i : Nat} (hi : i < n) : uF q n (fun j => (f j + z) % q) i = uF q n f i := by
  haveI : NeZero q := ⟨by omega⟩
  refine fi_inj (q := q) (uF_lt h1 i) (uF_lt h1 i) ?_
  unfold uF
  rw [fi_oth (fun j _ => Nat.mod_lt _ (by omega)) hi, fi_oth hf hi]
  rw [PS_congr n (fun t ht _ => by show fi q ((f i + z) % q) - fi q ((f t + z) % q) = fi q (f i) - fi q (f t); rw [fi_addN, fi_addN]; grind)]
theorem moved_v (h1 : 1 < q) {f : Nat → Nat} (hf : ∀ j, j < n → f j < q) (z : Nat) {i : Nat} (hi : i < n) : vF q n (fun j => (f j + z) % q) i = vF q n f i := by
  unfold vF
  rw [moved_u h1 hf z hi]
theorem moved_w (h1 : 1 < q) {f : Nat → Nat} (hf : ∀ j, j < n → f j < q) (z x : Nat) {i : Nat} (hi : i < n) : wtF q n (fun j => (f j + z) % q) ((x + z) % q) i = wtF q n f x i := by
  haveI : NeZero q := ⟨by omega⟩
  refine fi_inj (q := q) (prodS_lt h1 (vF_lt h1 i) _) (prodS_lt h1 (vF_lt h1 i) _) ?_
  rw [fi_wt (fun j _ => Nat.mod_lt _ (by omega)) hi, fi_wt hf hi, moved_v h1 hf z hi]
  rw [PS_congr n (fun t ht _ => by show fi q ((x + z) % q) - fi q ((f t + z) % q) = fi q x - fi q (f t); rw [fi_addN, fi_addN]; grind)]
theorem moved_E (h1 : 1 < q) {f : Nat → Nat} (hf : ∀ j, j < n → f j < q) (z : Nat) (hE : wtE q n f n = 0) : wtE q n (fun j => (f j + z) % q) n = 0 :=
  (wtE_all h1 n).2 fun t ht => by rw [moved_u h1 hf z ht]; exact (wtE_all h1 n).1 hE t ht
theorem moved_pts {f : Nat → Nat} (hp : ptsOK q n f) (z : Nat) : ptsOK q n (fun j => (f j + z) % q) := by
  obtain ⟨h0, hd, h1, hf⟩ := hp
  haveI : NeZero q := ⟨by omega⟩
  refine ⟨h0, fun i hi j hj e => hd i hi j hj (fi_inj (q := q) (hf j (by omega)) (hf i hi) ?_), h1, fun j _ => Nat.mod_lt _ (by omega)⟩
  have := congrArg (fi q) e
  simp only [fi_addN] at this
  grind
theorem many_pts {f : Nat → Nat} (hp : ptsOK q n f) {z : Nat} (hz : z < q) (hg : Nat.gcd z q = 1) : ptsOK q n (fun j => mulN (f j) z q) := by
  obtain ⟨h0, hd, h1, hf⟩ := hp
  haveI : NeZero q := ⟨by omega⟩
  have hu := fi_inv h1 hz hg
  refine ⟨h0, fun i hi j hj e => hd i hi j hj (fi_inj (q := q) (hf j (by omega)) (hf i hi) ?_), h1, fun j _ => mul_lt' h1 _ _⟩
  have := congrArg (fi q) e
  simp only [fi_mulN] at this
  generalize fi q (invM z q) = v at *
  grind
theorem many_PS [NeZero q] {f : Nat → Nat} (z x i : Nat) : ∀ k, PS (fun t => fi q (mulN x z q) - fi q (mulN (f t) z q)) i k = PS (fun t => fi q x - fi q (f t)) i k * fi q z ^ cntN i k := fun k => by
  rw [← PS_mul]
  exact PS_congr k (fun t _ _ => by show fi q (mulN x z q) - fi q (mulN (f t) z q) = (fi q x - fi q (f t)) * fi q z; rw [fi_mulN, fi_mulN]; grind)
theorem many_E (h1 : 1 < q) {f : Nat → Nat} (hf : ∀ j, j < n → f j < q) {z : Nat} (hz : z < q) (hg : Nat.gcd z q = 1) (hE : wtE q n f n = 0) : wtE q n (fun j => mulN (f j) z q) n = 0 := by
  haveI : NeZero q := ⟨by omega⟩
  have hu := fi_inv h1 hz hg
  refine (wtE_all h1 n).2 fun t ht => ?_
  have hv := fi_vu h1 hf ht ((wtE_all h1 n).1 hE t ht)
  refine u_unit (q := q) (v := fi q (vF q n f t) * fi q (invM z q) ^ cntN t n) h1 (fun j _ => mul_lt' h1 _ _) ht ?_
  rw [many_PS]
  have hpw : ∀ m : Nat, fi q z ^ m * fi q (invM z q) ^ m = 1 := fun m => by
    induction m with
    | zero => grind
    | succ m ih => generalize fi q (invM z q) = v at *; grind
  have := hpw (cntN t n)
  generalize fi q z ^ cntN t n = A at *
  generalize fi q (invM z q) ^ cntN t n = A' at *
  generalize PS (fun s => fi q (f t) - fi q (f s)) t n = S at *
  grind
theorem many_w (h1 : 1 < q) {f : Nat → Nat} (hf : ∀ j, j < n → f j < q) {z : Nat} (hz : z < q) (hg : Nat.gcd z q = 1) (hE : wtE q n f n = 0) (x : Nat) {i : Nat} (hi : i < n) : wtF q n (fun j => mulN (f j) z q) (mulN x z q) i = wtF q n f x i := by
  haveI : NeZero q := ⟨by omega⟩
  have hE2 := many_E h1 hf hz hg hE
  have hv := fi_vu h1 hf hi ((wtE_all h1 n).1 hE i hi)
  have hv2 := fi_vu h1 (f := fun j => mulN (f j) z q) (fun j _ => mul_lt' h1 _ _) hi ((wtE_all h1 n).1 hE2 i hi)
  simp only [many_PS] at hv2
  refine fi_inj (q := q) (prodS_lt h1 (vF_lt h1 i) _) (prodS_lt h1 (vF_lt h1 i) _) ?_
  rw [fi_wt (fun j _ => mul_lt' h1 _ _) hi, fi_wt hf hi]
  simp only [many_PS]
  generalize fi q z ^ cntN i n = A at *
  generalize PS (fun t => fi q (f i) - fi q (f t)) i n = S at *
  generalize PS (fun t => fi q x - fi q (f t)) i n = T at *
  generalize fi q (vF q n (fun j => mulN (f j) z q) i) = v2 at *
  generalize fi q (vF q n f i) = v at *
  grind
end
end Go.Proofs.Ytgfoeongjhkdmaa
