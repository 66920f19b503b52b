/- The contract of balefireref05.table; append to nothing. -/
import Derived.Test.YtgfoeongjhkdmaaGreatRShaRef
import Derived.Test.YtgfoeongjhkdmaaGreatRD
import Derived.Test.YtgfoeongjhkdmaaGreatRA
import Derived.Deep.Cut
import Derived.Test.YtgfoeongjhkdmaaGreatRLoadFrom
set_option linter.unusedVariables false
set_option linter.unusedSimpArgs false
namespace Go.Proofs.YtgfoeongjhkdmaaGreat
open Go.RowKit
attribute [local irreducible] Calls
theorem steps_row : u32s 64 stepF = steps.map fun x : Nat => Value.int .u32 (x : Int) := by
  rw [u32s_def]
  have e : stepF = fun i => steps.getD i 0 := funext stepF_def
  rw [e]
  rfl
section
variable {B0 : Nat} {w0 w : World} {L : List (Nat × Obj)}
set_option maxRecDepth 100000 in
set_option maxHeartbeats 4000000 in
theorem table_any (hR : Rep B0 w0 L w) : Calls Tryz.prog 109 #[] w fun e w' => ∃ b, e = .returned (.slice (some ⟨b, 0, none⟩) 64 64) ∧ Rep B0 w0 ((b, .cells (u32s 64 stepF).toArray 110) :: L) w' := by
  rw [steps_row]
  go_enter Tryz.func109, Tryz.ntmps109
  go_wp2_with (first | (refine' xAb hR rfl rfl rfl ?_; clear hR; intro blk w hR) | (refine' xAa hR rfl rfl inferInstance ?_; clear hR; intro blk w hR) | (refine' aAq hR rfl rfl rfl inferInstance ?_) | (refine' aBq hR rfl rfl rfl inferInstance ?_) | (refine' aCq hR rfl rfl rfl inferInstance ?_) | (refine' aDq hR rfl rfl rfl inferInstance rfl ?_; clear hR; intro w hR) | (refine' aEq hR rfl rfl rfl inferInstance rfl rfl ?_; clear hR; intro w hR) | fail)
  go_ret
  exact ⟨_, rfl, hR.alloc _⟩
end
section
variable {P : Program} {ops : Array Oper} {rest : List Oper} {o : Oper} {a : Act} {w w0 : World} {Q : Exit → Act → World → Prop} {B0 : Nat} {L : List (Nat × Obj)}
theorem xCp {E t : TypeId} (hR : Rep B0 w0 L w) (hgd : o.guard = none) {s x : Operand} (ho : o.op = .call { callee := .builtin .append, args := #[s, x], argTypes := #[t, t] })
    {i : TypeInfo} {z : Value} {bytes : Nat} (ht : P.underlying t = some (.slice E)) (hi : P.info? E = some i) (hz : i.zero = some z) (hsize : i.size = 1) (hby : i.bytes = bytes) (hzs : z.cells.size = 1)
    (hs : a.eval s = .slice none 0 0) {ad : Addr} {m c : Nat} (hx : a.eval x = .slice (some ad) m c) {news : List Value} (hl : news.length = m) (hm : 0 < m)
    (hnews : ∀ j u, news[j]? = some u → w.cell? (ad.add j) = some u) (h1 : ∀ u ∈ news, u.oneCell' = true) (h63 : m ≤ maxLen) (hbytes : m * bytes ≤ 140737488355328)
    (h : ∀ g' cap' (cur' : List Value) w', Rep B0 w0 ((g', .cells cur'.toArray E) :: L) w' → m ≤ cap' → cap' ≤ maxLen → cur'.length = cap' → cur'.take m = news → wpList P ops Q rest (a.put o.dst (.slice (some ⟨g', 0, none⟩) m cap')) w') :
    wpList P ops Q (o :: rest) a w := by
  refine wpList_append_own_at (P := P) w hgd s x t ho B0 E i z 1 bytes ht hi hz hsize hby hzs (by decide) _ 0 [] hs (World.ownsRow_nil w B0 E 1) ad m c news hx (by simpa using hl) hnews h1 (by simpa using h63) (by simpa using hbytes) hR.le ?_
  intro v' w' hO hg hiff hat
  simp only [Nat.zero_add, List.nil_append] at hO
  obtain ⟨hl', ⟨hv, h0⟩ | ⟨g', cap', cur', rfl, hB, hh, h2, h3, h4, h5⟩⟩ := hO
  · omega
  · have hR' := hR.grow' hg (fun r hr => by cases hr)
    have hR2 := hR'.add' hB hh (fun p hp e => by
      rcases hat with hat | hat
      · cases hat
      · have hgg : g' = w.heap.size := Option.some.inj hat
        have := hR.lt hp
        omega)
    exact h g' cap' cur'.toList w' (by simpa using hR2) h2 h3 (by simpa using h4) (by simpa using h5)
end
theorem append_none (a : Option Addr) (c : Nat) (ty : TypeId) (w : World) : (Builtin.append_ #[49, 49] ty #[.slice none 0 0, .slice a 0 c]).run Tryz.prog w = .ok (.slice none 0 0) w := by
  have := Tryz.underlying49
  obtain ⟨i0, hi, hz0, hz1, hz2⟩ := info_parts info_u8
  cases a <;> simp [Builtin.append_, run_underlying Tryz.underlying49, Builtin.lenOf, Builtin.firstCells, sizeOf, typeInfo, hi, loadCells, loadCellsFrom]
theorem wpList_appendNone {ops : Array Oper} {rest : List Oper} {o : Oper} {a : Act} {w : World} {Q : Exit → Act → World → Prop} (hgd : o.guard = none) {s x : Operand} (ho : o.op = .call { callee := .builtin .append, args := #[s, x], argTypes := #[49, 49] })
    (hs : a.eval s = .slice none 0 0) {ad : Option Addr} {c : Nat} (hx : a.eval x = .slice ad 0 c) (h : wpList Tryz.prog ops Q rest (a.put o.dst (.slice none 0 0)) w) : wpList Tryz.prog ops Q (o :: rest) a w :=
  wpList_plain hgd fun _ hK => by
    unfold Oper.wp execOp
    simp only [ho, resolve, invoke, builtin, Sem.run_bind, Sem.run_pure, Result.andThen_ok, List.map_toArray, List.map_cons, List.map_nil, hs, hx, append_none]
    exact hK _ _ h
theorem cut_buf {P : Program} {c : Code} {Q : Exit → Act → World → Prop} {l : List Value} {d : List Deferred} {w w0 : World} {B0 : Nat} {L : List (Nat × Obj)} (hR : Rep B0 w0 L w) (mask : List Bool) (sl n : Nat) (x : Nat → Nat) (t : TypeId)
    (h1 : ∀ Q' : Act → World → Prop, Held (∀ g cap (cur : List Value) tm w', BufOk n x ⟨n, g, cap, cur⟩ → agree mask (l.set sl (.slice (some ⟨g, 0, none⟩) n cap)) tm → Rep B0 w0 ((g, .cells cur.toArray t) :: L) w' → Q' ⟨tm.toArray, d⟩ w') → c.wp P (Exit.then Q' fun _ _ _ => False) ⟨l.toArray, d⟩ w)
    (h2 : ∀ g cap (cur : List Value) tm w', BufOk n x ⟨n, g, cap, cur⟩ → agree mask (l.set sl (.slice (some ⟨g, 0, none⟩) n cap)) tm → Rep B0 w0 ((g, .cells cur.toArray t) :: L) w' → Q .normal ⟨tm.toArray, d⟩ w') : c.wp P Q ⟨l.toArray, d⟩ w := by
  refine Code.wp_mono (fun e a w' h => ?_) (h1 (fun a w' => Q .normal a w') ⟨h2⟩)
  cases e <;> first | exact h | exact h.elim
end Go.Proofs.YtgfoeongjhkdmaaGreat
namespace Go.Proofs.YtgfoeongjhkdmaaGreat
open Go.RowKit
attribute [local irreducible] Calls
theorem Rep.bare {B0 : Nat} {w0 w : World} {L : List (Nat × Obj)} (h : Rep B0 w0 L w) : Rep B0 w0 [] w := h.weaken (List.nil_sublist _)
theorem xBo.any {B0 : Nat} {w0 : World} {L : List (Nat × Obj)} {v : Value} {xs : List Nat} (h : xBo B0 w0 [] v xs) : xBo B0 w0 L v xs := h.mono fun w hw => hw.bare
theorem cut_low {B0 : Nat} {w0 : World} {v : Value} {xs : List Nat} (h : xBo B0 w0 [] v xs) {k : Nat} (hk : k ≤ xs.length) : ∃ v1, (∀ w, (Instr.sliceAt 49 v none (some (.int .i64 (k : Int))) none).run Tryz.prog w = .ok v1 w) ∧ xBo B0 w0 [] v1 (xs.take k) := by
  obtain ⟨a, cap, rfl, h1, h2, h3, h4⟩ := h
  unfold maxLen at h2
  have g0 : 0 ≤ (k : Int) := by omega
  have g1 : (k : Int) ≤ (cap : Int) := by omega
  have hb : ∀ j, (xs.take k).getD j 0 < 256 := fun j => by
    by_cases hj : j < k
    · rw [xDh _ _ _ hj]; exact h3 j
    · rw [List.getD_eq_getElem?_getD, List.getElem?_eq_none (by simp; omega)]; exact (by decide : 0 < 256)
  have hl : (xs.take k).length = k := by simp; omega
  by_cases hx : xs = []
  · subst hx
    obtain rfl : k = 0 := by simpa using hk
    refine ⟨.slice (if cap = 0 then a else a.map (·.add 0)) 0 cap, fun w => ?_, ⟨_, cap, rfl, by simp, by unfold maxLen; omega, hb, fun h => absurd rfl h⟩⟩
    go_simp
  · obtain ⟨bb, off, rfl, h5⟩ := h4 hx
    have hc : ¬ cap = 0 := fun h => hx (List.length_eq_zero_iff.1 (by omega))
    refine ⟨.slice (some ⟨bb, off, none⟩) k cap, fun w => ?_, ⟨_, cap, by rw [hl], by omega, by unfold maxLen; omega, hb, fun _ => ⟨bb, off, rfl, fun w hw j hj => ?_⟩⟩⟩
    · go_simp
    · rw [h5 w hw j (by omega), xDh _ _ _ (by omega)]
theorem cut_high {B0 : Nat} {w0 : World} {v : Value} {xs : List Nat} (h : xBo B0 w0 [] v xs) {k : Nat} (hk : k ≤ xs.length) : ∃ v1, (∀ w, (Instr.sliceAt 49 v (some (.int .i64 (k : Int))) none none).run Tryz.prog w = .ok v1 w) ∧ xBo B0 w0 [] v1 (xs.drop k) := by
  obtain ⟨a, cap, rfl, h1, h2, h3, h4⟩ := h
  have hb : ∀ j, (xs.drop k).getD j 0 < 256 := fun j => by
    rw [List.getD_eq_getElem?_getD, List.getElem?_drop, ← List.getD_eq_getElem?_getD]; exact h3 _
  have hl : (xs.drop k).length = xs.length - k := by simp
  by_cases hx : xs = []
  · subst hx
    obtain rfl : k = 0 := by simpa using hk
    have h2' := h2
    unfold maxLen at h2
    refine ⟨.slice (if cap = 0 then a else a.map (·.add 0)) 0 cap, fun w => ?_, ⟨_, cap, rfl, by simp, h2', hb, fun h => absurd rfl h⟩⟩
    go_simp
  · obtain ⟨bb, off, rfl, h5⟩ := h4 hx
    refine ⟨_, cut_slice bb off xs.length cap k hk h1 h2, ⟨_, cap - k, by rw [hl], by omega, by omega, hb, fun hd => ?_⟩⟩
    have hlt : k < xs.length := by
      have : (xs.drop k).length ≠ 0 := fun h => hd (List.length_eq_zero_iff.1 h)
      omega
    refine ⟨bb, off + k, by rw [if_neg (by omega)], fun w hw j hj => ?_⟩
    rw [Nat.add_assoc, h5 w hw (k + j) (by omega), List.getD_eq_getElem?_getD, List.getD_eq_getElem?_getD, List.getElem?_drop]
end Go.Proofs.YtgfoeongjhkdmaaGreat
namespace Go.Proofs.YtgfoeongjhkdmaaGreat
open Go.RowKit
attribute [local irreducible] Calls
noncomputable def padF (m : List Nat) : Nat → Nat := opq fun j => (padN m).getD j 0
theorem padF_def (m : List Nat) (j : Nat) : padF m j = (padN m).getD j 0 := by unfold padF; rw [xCe]
theorem padF_left (m : List Nat) {j : Nat} (h : j < m.length) : padF m j = m.getD j 0 := by rw [padF_def, padN, xDi _ _ h]
theorem padF_right (m : List Nat) (j : Nat) : padF m (m.length + j) = tailF m.length j := by rw [padF_def, padN, xDc, tailF_def]
theorem padF_lt (m : List Nat) (hm : ∀ j, m.getD j 0 < 256) (j : Nat) : padF m j < 256 := by
  by_cases h : j < m.length
  · rw [padF_left m h]; exact hm j
  · obtain ⟨k, rfl⟩ : ∃ k, j = m.length + k := ⟨j - m.length, by omega⟩
    rw [padF_right, tailF_def]; exact tailN_byte _ _
theorem one_cell {B0 : Nat} {w0 w : World} {L : List (Nat × Obj)} {b : Nat} {v : Value} {t : TypeId} (hR : Rep B0 w0 ((b, .cells [v].toArray t) :: L) w) : ∀ j u, ([v] : List Value)[j]? = some u → w.cell? ((⟨b, 0, none⟩ : Addr).add j) = some u := fun j u hj => by
  match j, hj with
  | 0, hj =>
    obtain rfl : v = u := Option.some.inj hj
    have := hR.cell (off := 0) (l := [v]) (.head _) rfl
    simpa [Addr.add] using this
theorem one_one (x : Int) : ∀ u ∈ [Value.int .u8 x], u.oneCell' = true := fun u hu => by rw [List.mem_singleton.1 hu]; rfl
theorem blocks_next (m : List Nat) (k : Nat) : takeN (xBv m k) (fun j => m.getD (64 * k + j) 0) = xBv m (k + 1) := by rw [xBv]
theorem blocks_none (m : List Nat) : xBv m 0 = beginN := by rw [xBv]
theorem begin_row : s8L beginN = [.int .u32 1779033703, .int .u32 3144134277, .int .u32 1013904242, .int .u32 2773480762, .int .u32 1359893119, .int .u32 2600822924, .int .u32 528734635, .int .u32 1541459225] := rfl
theorem all_slice (g i i64 n cap : Nat) (h1 : i + 64 = i64) (h2 : i64 ≤ n) (h3 : n ≤ cap) (hc : cap ≤ maxLen) (w : World) :
    (Instr.sliceAt 49 (.slice (some ⟨g, 0, none⟩) n cap) (some (.int .i64 (i : Int))) (some (.int .i64 (i64 : Int))) none).run Tryz.prog w = .ok (.slice (some ⟨g, i, none⟩) 64 (cap - i)) w := by
  unfold maxLen at hc
  have h0 : 0 ≤ (i : Int) := by omega
  have g1 : (i : Int) ≤ (i64 : Int) := by omega
  have g2 : (i64 : Int) ≤ (cap : Int) := by omega
  have g3 : ¬ cap = i := by omega
  have g4 : i64 - i = 64 := by omega
  go_simp
set_option maxRecDepth 100000 in
set_option maxHeartbeats 4000000 in
theorem ref_of {B0 : Nat} {w0 w : World} {L : List (Nat × Obj)} (v : Value) (xs : List Nat) (hbig : xs.length < 2000000) (hv : xBo B0 w0 L v xs) (hR : Rep B0 w0 L w) :
    Calls Tryz.prog 97 #[v] w fun e w' => e = .returned (.agg (u8s 32 (hashF xs)).toArray) ∧ Rep B0 w0 L w' := by
  obtain ⟨i0, hi, hz0, hz1, hz2⟩ := info_parts info_u8
  obtain ⟨N, hN⟩ : ∃ N, xs.length = N := ⟨_, rfl⟩
  obtain ⟨m8, hm8⟩ : ∃ x, 8 * N % 18446744073709551616 = x := ⟨_, rfl⟩
  have f1 : IntKind.u64.wrap (8 * (N : Int)) = (m8 : Int) := by rw [IntKind.wrap_u64]; omega
  have f0 : IntKind.u64.wrap (N : Int) = (N : Int) := by rw [IntKind.wrap_u64]; omega
  have hv0 := hv
  obtain ⟨a, cap, hva, h1, h2, h3, h4⟩ := hv
  rw [hN] at hva h1 hbig
  have hpad := padF_lt xs h3
  have hleft : ∀ n, n ≤ N → ∀ w, Rep B0 w0 L w → xs ≠ [] → ∃ ad, a = some ad ∧ ∀ j u, (u8s n (padF xs))[j]? = some u → w.cell? (ad.add j) = some u := fun n hn w hw hx => by
    obtain ⟨bb, off, h5, h6⟩ := h4 hx
    refine ⟨_, h5, fun j u hj => ?_⟩
    have hjn : j < n := by
      have := (List.getElem?_eq_some_iff.1 hj).1
      simpa using this
    rw [u8s_at hjn, padF_left xs (by omega)] at hj
    rw [← Option.some.inj hj]
    exact cell_addr (h6 w hw j (by omega))
  have h128 : padF xs N = 128 := by
    have := padF_right xs 0
    rw [Nat.add_zero, hN] at this
    rw [this, tailF_head]
  subst hva
  go_enter Tryz.func97, Tryz.ntmps97
  go_upto_region 1 with (first | (refine' xAa hR rfl rfl ?hT ?_; (case hT => exact inferInstance); clear hR; intro blk w hR))
  refine' cut_buf hR (false :: false :: false :: false :: false :: false :: false :: false :: false :: false :: false :: true :: true :: true :: true :: false :: false :: false :: false :: false :: false :: false :: false :: false :: false :: false :: false :: false :: false :: false :: false :: false :: false :: false :: false :: false :: false :: false :: false :: false :: false :: false :: false :: false :: false :: false :: false :: false :: false :: false :: false :: false :: false :: false :: false :: false :: false :: false :: false :: false :: false :: false :: false :: false :: false :: false :: false :: false :: false :: false :: false :: false :: []) 3 (N + 1) (padF xs) 5 ?h1 ?h2
  case h1 =>
    intro Q' hQ
    by_cases hx : xs = []
    · have hN0 : N = 0 := by rw [← hN, hx]; rfl
      subst hN0
      go_wp2_with (first | (refine' xAb hR rfl rfl rfl ?_; clear hR; intro blk w hR) | (refine' xAa hR rfl rfl inferInstance ?_; clear hR; intro blk w hR) | (refine' aFq hR rfl rfl rfl inferInstance ?_) | (refine' aGq hR rfl rfl rfl inferInstance ?_) | (refine' aHq hR rfl rfl rfl inferInstance ?_) | (refine' aDq hR rfl rfl rfl inferInstance rfl ?_; clear hR; intro w hR) | (refine' aEq hR rfl rfl rfl inferInstance rfl rfl ?_; clear hR; intro w hR) | (refine' wpList_appendNone rfl rfl rfl rfl ?_) | (refine' xBp hR rfl rfl rfl (xCw _) ?_; clear hR; intro bt w hR) | (refine' xCp hR rfl rfl Tryz.underlying49 hi hz0 hz1 hz2 rfl rfl rfl (news := [.int .u8 128]) rfl (by decide) (one_cell hR) (one_one _) (by decide) (by decide) ?_; clear hR; intro g' cap' cur' w hR c1 c2 c3 c4))
      refine hQ.out g' cap' cur' _ _ ⟨c1, c2, c3, ?_⟩ (xAu rfl rfl rfl) (hR.weaken ((List.sublist_cons_self _ _).cons_cons _))
      show cur'.take 1 = _
      rw [c4, xCu]
      show _ = [Value.int .u8 ((padF xs 0 : Nat) : Int)]
      rw [h128]
      rfl
    · obtain ⟨ad, hva, hsrc⟩ := hleft N (Nat.le_refl _) w hR.drop1 hx
      subst hva
      have hNp : 0 < N := by
        have : xs.length ≠ 0 := fun h => hx (List.length_eq_zero_iff.1 h)
        omega
      have hln := xCr N (padF xs)
      have hone := u8s_mem N (padF xs)
      have hm1 : N ≤ maxLen := by unfold maxLen; omega
      have hm2 : N * 1 ≤ 140737488355328 := by omega
      have hm3 : N + 1 ≤ maxLen := by unfold maxLen; omega
      have hm4 : (N + 1) * 1 ≤ 140737488355328 := by omega
      generalize hcs : u8s N (padF xs) = cs at *
      replace hcs := Held.mk hcs
      replace hln := Held.mk hln
      go_wp2_with (first | (refine' xAb hR rfl rfl rfl ?_; clear hR; intro blk w hR) | (refine' xAa hR rfl rfl inferInstance ?_; clear hR; intro blk w hR) | (refine' aFq hR rfl rfl rfl inferInstance ?_) | (refine' aGq hR rfl rfl rfl inferInstance ?_) | (refine' aHq hR rfl rfl rfl inferInstance ?_) | (refine' aDq hR rfl rfl rfl inferInstance rfl ?_; clear hR; intro w hR) | (refine' aEq hR rfl rfl rfl inferInstance rfl rfl ?_; clear hR; intro w hR) | (refine' xCp hR rfl rfl Tryz.underlying49 hi hz0 hz1 hz2 rfl rfl rfl (news := cs) hln.out hNp hsrc hone hm1 hm2 ?_; clear hR; intro g cap2 cur w hR c1 c2 c3 c4; replace c3 := Held.mk c3; replace c4 := Held.mk c4) | (refine' xBp hR rfl rfl rfl (xCw _) ?_; clear hR; intro bt w hR) | (refine' xCd hR rfl rfl Tryz.underlying49 hi hz0 hz1 hz2 rfl rfl rfl c1 c2 c3.out rfl hm3 hm4 ?_; clear hR; intro g' cap' cur' w hR e1 e2 e3 e4))
      refine hQ.out g' cap' cur' _ _ ⟨e1, e2, e3, ?_⟩ (xAu rfl rfl rfl) hR
      show cur'.take (N + 1) = _
      rw [e4, c4.out, ← hcs.out, u8s_succ, h128]
      rfl
  case h2 =>
    clear hR hleft h128 h4 hv0
    intro g cap cur tm w hb ht hR
    simp only [kP, kQ, kA, kB, List.toList_toArray] at ht
    have ga := gap_fits N
    obtain ⟨ble, bbig, blen, bis⟩ := hb
    simp only at ble bbig blen bis
    replace hm8 := Held.mk hm8
    replace hN := Held.mk hN
    repeat (first | (obtain ⟨x, tm', e, ht'⟩ := xAf ht; clear ht; subst e; have ht := ht'; clear ht') | (obtain ⟨tm', e, ht'⟩ := xAc ht; clear ht; subst e; have ht := ht'; clear ht'))
    obtain rfl := xAk ht
    clear ht
    go_wp2_with (first | (refine' xAb hR rfl rfl rfl ?_; clear hR; intro blk w hR) | (refine' xAa hR rfl rfl inferInstance ?_; clear hR; intro blk w hR) | (refine' aFq hR rfl rfl rfl inferInstance ?_) | (refine' aGq hR rfl rfl rfl inferInstance ?_) | (refine' aHq hR rfl rfl rfl inferInstance ?_) | (refine' aDq hR rfl rfl rfl inferInstance rfl ?_; clear hR; intro w hR) | (refine' aEq hR rfl rfl rfl inferInstance rfl rfl ?_; clear hR; intro w hR) | fail)
    refine' xCc (false :: false :: false :: false :: false :: false :: false :: false :: false :: false :: false :: false :: false :: false :: false :: true :: true :: true :: true :: true :: true :: true :: false :: false :: false :: false :: false :: false :: false :: false :: false :: false :: false :: false :: false :: false :: false :: false :: false :: false :: false :: false :: false :: false :: false :: false :: false :: false :: false :: false :: false :: false :: false :: false :: false :: false :: false :: false :: false :: false :: false :: false :: false :: false :: false :: false :: false :: false :: false :: false :: false :: false :: []) (fun (x : Buf) l => l.set 3 (.slice (some ⟨x.g, 0, none⟩) x.i x.cap)) (fun x => (x.g, .cells x.cur.toArray 5) :: (blk, .cells (u8s 32 fun _ => 0).toArray 28) :: L) (fun x => N + 1 + gapN N - x.i) (fun x => (N + 1 ≤ x.i ∧ x.i ≤ N + 1 + gapN N) ∧ BufOk x.i (padF xs) x) ⟨N + 1, g, cap, cur⟩ ?h0 ?hO ?hR ?hs
    case h0 => exact xAu rfl rfl rfl
    case hO => exact ⟨⟨Nat.le_refl _, by show N + 1 ≤ N + 1 + gapN N; omega⟩, ble, bbig, blen, bis⟩
    case hR => exact hR
    case hs =>
      clear hR ble bbig blen bis
      intro x tm w hO ht hR K hK
      obtain ⟨n, g, cap, cur⟩ := x
      obtain ⟨⟨h1n, hn1⟩, ⟨ble, bbig, blen, bis⟩⟩ := hO
      simp only at h1n hn1 ble bbig blen bis ht hR
      obtain ⟨q, hq⟩ : ∃ x, n % 64 = x := ⟨_, rfl⟩
      have e3 : (n : Int).tmod 64 = (q : Int) := by rw [Int.tmod_eq_emod_of_nonneg (by omega)]; omega
      have e4 : (n : Int) % 64 = (q : Int) := by omega
      have gap64 : gapN N < 64 := by unfold gapN; omega
      have hq56 : q = 56 ↔ n = N + 1 + gapN N := by unfold gapN at hn1 ⊢; omega
      by_cases hlast : n = N + 1 + gapN N
      · have t1 : ((q : Int) != 56) = false := by
          have := hq56.2 hlast
          simp; omega
        clear hK hq56
        replace hq := Held.mk hq
        obtain ⟨n0, hn0⟩ : ∃ n0, n0 = n := ⟨_, rfl⟩
        subst hn0
        replace hlast := Held.mk hlast
        replace bis := Held.mk bis
        repeat (first | (obtain ⟨x, tm', e, ht'⟩ := xAf ht; clear ht; subst e; have ht := ht'; clear ht') | (obtain ⟨tm', e, ht'⟩ := xAc ht; clear ht; subst e; have ht := ht'; clear ht'))
        obtain rfl := xAk ht
        clear ht
        go_wp2_with (first | (refine' xAb hR rfl rfl rfl ?_; clear hR; intro blk w hR) | (refine' xAa hR rfl rfl inferInstance ?_; clear hR; intro blk w hR) | (refine' aFq hR rfl rfl rfl inferInstance ?_) | (refine' aGq hR rfl rfl rfl inferInstance ?_) | (refine' aHq hR rfl rfl rfl inferInstance ?_) | (refine' aDq hR rfl rfl rfl inferInstance rfl ?_; clear hR; intro w hR) | (refine' aEq hR rfl rfl rfl inferInstance rfl rfl ?_; clear hR; intro w hR) | fail)
        clear t1
        refine' xCc (false :: false :: false :: false :: false :: false :: false :: false :: false :: false :: false :: false :: false :: false :: false :: false :: false :: false :: false :: false :: false :: false :: false :: false :: false :: false :: true :: true :: true :: true :: true :: true :: true :: true :: true :: true :: true :: true :: true :: false :: false :: false :: false :: false :: false :: false :: false :: false :: false :: false :: false :: false :: false :: false :: false :: false :: false :: false :: false :: false :: false :: false :: false :: false :: false :: false :: false :: false :: false :: false :: false :: false :: []) (fun (x : Buf) l => (l.set 3 (.slice (some ⟨x.g, 0, none⟩) x.i x.cap)).set 5 (.int .i64 ((x.i : Int) - (n0 : Nat)))) (fun x => (x.g, .cells x.cur.toArray 5) :: (blk, .cells (u8s 32 fun _ => 0).toArray 28) :: L) (fun x => 8 + n0 - x.i) (fun x => (n0 ≤ x.i ∧ x.i ≤ 8 + n0) ∧ BufOk x.i (padF xs) x) ⟨n0, g, cap, cur⟩ ?h0 ?hO ?hR ?hs
        case h0 =>
          simp only [Int.sub_self]
          exact xAu rfl rfl rfl
        case hO => exact ⟨⟨Nat.le_refl _, by show n0 ≤ 8 + n0; omega⟩, ble, bbig, blen, bis.out⟩
        case hR => exact hR
        case hs =>
          clear hR ble bbig blen bis
          intro x tm w hO ht hR K hK
          obtain ⟨n, g, cap, cur⟩ := x
          obtain ⟨⟨h1n, hn1⟩, ⟨ble, bbig, blen, bis⟩⟩ := hO
          simp only at h1n hn1 ble bbig blen bis ht hR
          obtain ⟨k, hk⟩ : ∃ k, n = n0 + k := ⟨n - n0, by omega⟩
          have ek : (n : Int) - (n0 : Nat) = (k : Int) := by omega
          rw [ek] at ht
          have g0 : 0 ≤ (k : Int) := by omega
          by_cases hl8 : k = 8
          · have t1 : ¬ (k : Int) < 8 := by omega
            have hP : (padN xs).length = n := by
              unfold padN
              rw [List.length_append, tailN_length, hN.out]
              have := hlast.out
              omega
            subst hl8
            have e8 : ((8 : Nat) : Int) = 8 := rfl
            rw [e8] at ht t1
            clear t1 e8 hK ek g0 h1n hn1
            obtain ⟨R, hRn⟩ : ∃ R, n = 64 * R := ⟨n / 64, by have := hlast.out; omega⟩
            replace hk := Held.mk hk
            have hblk : ∀ j, j < n → cur[j]? = some (.int .u8 ((padF xs j : Nat) : Int)) := fun j hj => by
              have := u8s_at (w := padF xs) hj
              rw [← bis, List.getElem?_take, if_pos hj] at this
              exact this
            have n47 : n < 3000000 := by have := hk.out; have := hlast.out; omega
            clear bis hk hlast hq e3 e4
            replace hP := Held.mk hP
            replace hRn := Held.mk hRn
            replace hblk := Held.mk hblk
            obtain ⟨b1, hb1⟩ : ∃ x, x = blk := ⟨_, rfl⟩
            subst hb1
            repeat (first | (obtain ⟨x, tm', e, ht'⟩ := xAf ht; clear ht; subst e; have ht := ht'; clear ht') | (obtain ⟨tm', e, ht'⟩ := xAc ht; clear ht; subst e; have ht := ht'; clear ht'))
            obtain rfl := xAk ht
            clear ht
            go_wp2_with (first | (refine' xAb hR rfl rfl rfl ?_; clear hR; intro blk w hR) | (refine' xAa hR rfl rfl inferInstance ?_; clear hR; intro blk w hR) | (refine' aFq hR rfl rfl rfl inferInstance ?_) | (refine' aGq hR rfl rfl rfl inferInstance ?_) | (refine' aHq hR rfl rfl rfl inferInstance ?_) | (refine' aDq hR rfl rfl rfl inferInstance rfl ?_; clear hR; intro w hR) | (refine' aEq hR rfl rfl rfl inferInstance rfl rfl ?_; clear hR; intro w hR) | (go_at_call 109; refine (table_any hR).mono ?_; clear hR; rintro e w ⟨tb, rfl, hR⟩))
            rw [← begin_row] at hR
            obtain ⟨bh, hbh⟩ : ∃ x, x = blk := ⟨_, rfl⟩
            subst hbh
            have hres : (u8s 32 (hashF xs)) = byRow (xBv (padN xs) R) 32 := by
              rw [hashF_eq, hash_row, hP.out, hRn.out, Nat.mul_div_cancel_left _ (by decide : 0 < 64)]
            have e0 : (64 : Int) * ((R : Int) - ((R : Nat) : Int)) = 0 := by omega
            refine' xCa (false :: false :: false :: false :: false :: false :: false :: false :: false :: false :: false :: false :: false :: false :: false :: false :: false :: false :: false :: false :: false :: false :: false :: false :: false :: false :: false :: false :: false :: false :: false :: false :: false :: false :: false :: false :: false :: false :: false :: false :: false :: true :: true :: true :: true :: true :: true :: true :: true :: true :: true :: true :: true :: true :: true :: false :: false :: false :: false :: false :: false :: false :: false :: false :: false :: false :: false :: false :: false :: false :: false :: false :: []) (fun j l => l.set 8 (.int .i64 ((64 : Int) * ((R : Int) - (j : Int))))) (fun j => (tb, .cells (u32s 64 stepF).toArray 110) :: (bh, .cells (s8L (xBv (padN xs) (R - j))).toArray 111) :: (g, .cells cur.toArray 5) :: (b1, .cells (u8s 32 fun _ => 0).toArray 28) :: L) R ?h0 ?hR ?hs ?he
            case hR => rw [Nat.sub_self, blocks_none]; exact hR
            case h0 => simp only [e0]; exact xAu rfl rfl rfl
            case hs =>
              clear hR e0
              intro j tm w hj ht hR K hK
              repeat (first | (obtain ⟨x, tm', e, ht'⟩ := xAf ht; clear ht; subst e; have ht := ht'; clear ht') | (obtain ⟨tm', e, ht'⟩ := xAc ht; clear ht; subst e; have ht := ht'; clear ht'))
              obtain rfl := xAk ht
              clear ht
              obtain ⟨k, hk'⟩ : ∃ k, R - (j + 1) = k := ⟨_, rfl⟩
              obtain ⟨i, hi'⟩ : ∃ i, 64 * k = i := ⟨_, rfl⟩
              obtain ⟨i64, hi64⟩ : ∃ x, i + 64 = x := ⟨_, rfl⟩
              have e1 : (64 : Int) * ((R : Int) - ((j + 1 : Nat) : Int)) = (i : Int) := by omega
              have e2 : (64 : Int) * ((R : Int) - (j : Int)) = (i64 : Int) := by omega
              have e3 : R - j = k + 1 := by omega
              rw [hk'] at hR
              simp only [e2, e3] at hK
              rw [e1]
              have hin : i64 ≤ n := by have := hRn.out; omega
              clear e1 e2 e3
              have g0 : (i : Int) < (n : Int) := by omega
              have e4 : IntKind.i64.wrap ((i : Int) + 64) = (i64 : Int) := by rw [IntKind.wrap_i64]; omega
              have hsl := fun w => all_slice g i i64 n cap hi64 hin ble bbig w
              have ok := blocksN_ok (padN xs) k
              have hb : ∀ j, (fun j => (padN xs).getD (64 * k + j) 0) j < 256 := fun j => by
                have := hpad (64 * k + j)
                rw [padF_def] at this
                exact this
              have hl : ∀ j, j < 64 → cur[i + j]? = some (.int .u8 (((fun j => (padN xs).getD (64 * k + j) 0) j : Nat) : Int)) := fun j hj => by
                have := hblk.out (i + j) (by omega)
                rw [padF_def, ← hi'] at this
                rw [← hi']
                exact this
              have hnx : takeN (xBv (padN xs) k) (fun j => (padN xs).getD (64 * k + j) 0) = xBv (padN xs) (k + 1) := blocks_next _ _
              have cb := fun (w : World) (hw : Rep B0 w0 ((tb, .cells (u32s 64 stepF).toArray 110) :: (bh, .cells (s8L (xBv (padN xs) k)).toArray 111) :: (g, .cells cur.toArray 5) :: (b1, .cells (u8s 32 fun _ => 0).toArray 28) :: L) w) => block_any (xBv (padN xs) k) (fun j => (padN xs).getD (64 * k + j) 0) ok hb g i (cap - i) tb cur (.tail _ (.tail _ (.head _))) hl (.head _) hw
              rw [hnx] at cb
              clear hb hl hnx ok
              generalize xBv (padN xs) k = s at *
              generalize xBv (padN xs) (k + 1) = s' at *
              have o1 := s8L_one s'
              have o2 := xCb s'
              replace hk' := Held.mk hk'
              replace hi' := Held.mk hi'
              replace hi64 := Held.mk hi64
              go_wp2_with (first | (refine' xAb hR rfl rfl rfl ?_; clear hR; intro blk w hR) | (refine' xAa hR rfl rfl inferInstance ?_; clear hR; intro blk w hR) | (refine' aFq hR rfl rfl rfl inferInstance ?_) | (refine' aGq hR rfl rfl rfl inferInstance ?_) | (refine' aHq hR rfl rfl rfl inferInstance ?_) | (refine' aDq hR rfl rfl rfl inferInstance rfl ?_; clear hR; intro w hR) | (refine' aEq hR rfl rfl rfl inferInstance rfl rfl ?_; clear hR; intro w hR) | fail)
              refine xAg hR [0, 0, 0, 0, 0, 0, 0, 0, 2] [] xCt (by kernel_rfl) rfl rfl (fun K hK => ?_)
              clear hR
              repeat ((first | (refine' xBc (by decide) rfl rfl rfl rfl rfl rfl hsl ?ha ?_; (case ha => simp only [kP, kQ, kA, kB]; try rfl)) | (refine xBj ?_) | (refine' xAs (by decide) rfl (.inl rfl) rfl ?ha ?_) | (refine' xAs (by decide) rfl (.inr rfl) rfl ?ha ?_) | (refine' xAr rfl rfl rfl inferInstance ?hm ?hn ?ha ?_; (case hm => first | with_reducible assumption | repeat (first | exact .head _ | with_reducible assumption | apply mC)); (case hn => first | rfl | simp)) | (refine' xAm rfl rfl rfl inferInstance ?hm ?hv ?hn ?ha ?_; (case hm => first | with_reducible assumption | repeat (first | exact .head _ | with_reducible assumption | apply mC)); (case hv => first | with_reducible assumption | (simp only [kC, kD, kE, kF]; try rfl)); (case hn => first | rfl | simp)) | (refine' xAi rfl rfl rfl inferInstance ?hm ?hv ?ha ?_; (case hm => first | with_reducible assumption | repeat (first | exact .head _ | with_reducible assumption | apply mC)); (case hv => first | rfl | with_reducible assumption)) | (refine' xAn rfl rfl rfl inferInstance ?hm ?hv ?hn ?ha ?_; (case hm => first | with_reducible assumption | repeat (first | exact .head _ | with_reducible assumption | apply mC)); (case hv => first | with_reducible assumption | (simp only [kC, kD, kE, kF]; try rfl)); (case hn => first | rfl | simp)) | (refine' xAj rfl rfl rfl inferInstance ?hm ?hv ?ha ?_; (case hm => first | with_reducible assumption | repeat (first | exact .head _ | with_reducible assumption | apply mC)); (case hv => first | rfl | with_reducible assumption)) | ((first | refine' xAd (by decide) rfl rfl rfl rfl (fun w => ?hq) ?ha ?_ | refine' xBf (by decide) rfl rfl rfl rfl (fun w => ?hq) ?ha ?_ | refine' xAp (by decide) rfl rfl rfl (fun w => ?hq) ?ha ?_ | refine' xAe (by decide) rfl rfl rfl (fun w => ?hq) ?ha ?_ | refine' xAo (by decide) rfl rfl rfl (fun w => ?hq) ?ha ?_ | refine' xBd (by decide) rfl rfl rfl rfl (fun w => ?hq) ?ha ?_ | refine' xBc (by decide) rfl rfl rfl rfl rfl rfl (fun w => ?hq) ?ha ?_ | refine' xBb (by decide) rfl rfl (fun w => ?hq) ?ha ?_ | refine' xAq (by decide) rfl rfl rfl (fun w => ?hq) ?ha ?_ | refine' xBe (by decide) rfl rfl rfl (fun w => ?hq) ?ha ?_); (case hq => go_simp; try rfl)) | (refine' xAh (by decide) rfl rfl rfl ?ha ?_) | (refine' xBl (by decide) rfl rfl rfl rfl ?ha ?_) | (refine' xBk (by decide) rfl ?ha ?_) | (refine' hd_callR rfl rfl rfl (xBi Tryz.func110 (by kernel_rfl) (by kernel_rfl) _) (fun w hw => cb w hw) ?ha ?_)); try (case ha => simp only [kP, kQ, kA, kB]; try rfl))
              refine xBs (hK _ _ ?_)
              clear hK K
              refine xBx (fun Q hQ => ?_)
              simp only [List.nil_append, List.cons_append]
              have o3 := xCb s
              refine' xAv rfl rfl rfl inferInstance rfl (xAx.tail xAx.head) o1 o2 o3 (fun p hp => absurd hp List.not_mem_nil) rfl ?_
              refine xBw (fun w hR => hQ _ _ ?_)
              clear hQ Q
              go_wp2_with (first | (refine' xAb hR rfl rfl rfl ?_; clear hR; intro blk w hR) | (refine' xAa hR rfl rfl inferInstance ?_; clear hR; intro blk w hR) | (refine' aFq hR rfl rfl rfl inferInstance ?_) | (refine' aGq hR rfl rfl rfl inferInstance ?_) | (refine' aHq hR rfl rfl rfl inferInstance ?_) | (refine' aDq hR rfl rfl rfl inferInstance rfl ?_; clear hR; intro w hR) | (refine' aEq hR rfl rfl rfl inferInstance rfl rfl ?_; clear hR; intro w hR) | fail)
              exact hK.out _ _ (xAu rfl rfl rfl) hR
            case he =>
              clear hR
              intro tm w ht hR K
              have t1 : ¬ (n : Int) < (n : Int) := by omega
              have e1 : (64 : Int) * ((R : Int) - ((0 : Nat) : Int)) = (n : Int) := by have := hRn.out; omega
              rw [e1] at ht
              rw [Nat.sub_zero] at hR
              have hfok := blocksN_ok (padN xs) R
              generalize xBv (padN xs) R = hf at *
              clear e1
              replace hres := Held.mk hres
              replace ble := Held.mk ble
              replace bbig := Held.mk bbig
              replace n47 := Held.mk n47
              repeat (first | (obtain ⟨x, tm', e, ht'⟩ := xAf ht; clear ht; subst e; have ht := ht'; clear ht') | (obtain ⟨tm', e, ht'⟩ := xAc ht; clear ht; subst e; have ht := ht'; clear ht'))
              obtain rfl := xAk ht
              clear ht
              go_wp2_with (first | (refine' xAb hR rfl rfl rfl ?_; clear hR; intro blk w hR) | (refine' xAa hR rfl rfl inferInstance ?_; clear hR; intro blk w hR) | (refine' aFq hR rfl rfl rfl inferInstance ?_) | (refine' aGq hR rfl rfl rfl inferInstance ?_) | (refine' aHq hR rfl rfl rfl inferInstance ?_) | (refine' aDq hR rfl rfl rfl inferInstance rfl ?_; clear hR; intro w hR) | (refine' aEq hR rfl rfl rfl inferInstance rfl rfl ?_; clear hR; intro w hR) | fail)
              obtain ⟨bo, hbo⟩ : ∃ x, x = blk := ⟨_, rfl⟩
              subst hbo
              clear t1
              refine' xCa (false :: false :: false :: false :: false :: false :: false :: false :: false :: false :: false :: false :: false :: false :: false :: false :: false :: false :: false :: false :: false :: false :: false :: false :: false :: false :: false :: false :: false :: false :: false :: false :: false :: false :: false :: false :: false :: false :: false :: false :: false :: false :: false :: false :: false :: false :: false :: false :: false :: false :: false :: false :: false :: false :: false :: true :: true :: true :: true :: true :: true :: true :: true :: true :: true :: true :: true :: true :: true :: true :: true :: false :: []) (fun j l => l.set 10 (.int .i64 ((32 : Int) - (j : Int)))) (fun j => (bo, .cells (byRow hf (32 - j)).toArray 28) :: (tb, .cells (u32s 64 stepF).toArray 110) :: (bh, .cells (s8L hf).toArray 111) :: (g, .cells cur.toArray 5) :: (b1, .cells (u8s 32 fun _ => 0).toArray 28) :: L) 32 ?h0 ?hR ?hs ?he
              case hR => exact hR
              case h0 => exact xAu rfl rfl rfl
              case hs =>
                clear hR
                intro j tm w hj ht hR K hK
                repeat (first | (obtain ⟨x, tm', e, ht'⟩ := xAf ht; clear ht; subst e; have ht := ht'; clear ht') | (obtain ⟨tm', e, ht'⟩ := xAc ht; clear ht; subst e; have ht := ht'; clear ht'))
                obtain rfl := xAk ht
                clear ht
                obtain ⟨k, hk⟩ : ∃ k, 32 - (j + 1) = k := ⟨_, rfl⟩
                have e1 : (32 : Int) - ((j + 1 : Nat) : Int) = (k : Int) := by omega
                have e2 : (32 : Int) - (j : Int) = (k : Int) + 1 := by omega
                have e3 : 32 - j = k + 1 := by omega
                rw [hk] at hR
                simp only [e2, e3] at hK
                rw [e1]
                have k32 : k < 32 := by omega
                clear e1 e2 e3 hk hj
                have g0 : 0 ≤ (k : Int) := by omega
                have g1 : (k : Int) < 32 := by omega
                obtain ⟨p, hp⟩ : ∃ p, k / 4 = p := ⟨_, rfl⟩
                obtain ⟨q, hq'⟩ : ∃ q, k % 4 = q := ⟨_, rfl⟩
                obtain ⟨q8, hq8⟩ : ∃ x, q * 8 = x := ⟨_, rfl⟩
                obtain ⟨sh, hsh⟩ : ∃ x, 24 - q8 = x := ⟨_, rfl⟩
                have e1 : (k : Int) / 4 = (p : Int) := by omega
                have e2 : (k : Int).tdiv 4 = (p : Int) := by rw [Int.tdiv_eq_ediv_of_nonneg (by omega)]; omega
                have e3 : IntKind.i64.wrap (p : Int) = (p : Int) := by rw [IntKind.wrap_i64]; omega
                have e4 : (k : Int) % 4 = (q : Int) := by omega
                have e5 : (k : Int).tmod 4 = (q : Int) := by rw [Int.tmod_eq_emod_of_nonneg (by omega)]; omega
                have e6 : IntKind.i64.wrap (8 * (q : Int)) = (q8 : Int) := by rw [IntKind.wrap_i64]; omega
                have e7 : IntKind.i64.wrap (24 - (q8 : Int)) = (sh : Int) := by rw [IntKind.wrap_i64]; omega
                have g2 : 0 ≤ (p : Int) := by omega
                have g3 : (p : Int) < 8 := by omega
                have g4 : 0 ≤ (sh : Int) := by omega
                have g5 : (sh : Int) < 32 := by omega
                have d1 : (s8L hf)[p]? = some (.int .u32 (getF hf p : Int)) := by rw [s8L_row, u32s_at (by omega)]
                have d2 := getF_lt hfok p
                have hb : byteN hf k = getF hf p / 2 ^ sh % 256 := by
                  rw [getF_def, ← hsh, ← hq8, ← hq', ← hp]; rfl
                have hset2 := byRow_set hf (i := k) hb
                have e8 : IntKind.u8.wrap ((getF hf p : Int) / 2 ^ sh) = ((getF hf p / 2 ^ sh % 256 : Nat) : Int) := by rw [IntKind.wrap_u8]; simp
                clear hb
                generalize getF hf p / 2 ^ sh % 256 = v at *
                generalize getF hf p = v1 at *
                generalize s8L hf = rowh at *
                replace hp := Held.mk hp
                replace hq' := Held.mk hq'
                replace hq8 := Held.mk hq8
                replace hsh := Held.mk hsh
                go_wp2_with (first | (refine' xAb hR rfl rfl rfl ?_; clear hR; intro blk w hR) | (refine' xAa hR rfl rfl inferInstance ?_; clear hR; intro blk w hR) | (refine' aFq hR rfl rfl rfl inferInstance ?_) | (refine' aGq hR rfl rfl rfl inferInstance ?_) | (refine' aHq hR rfl rfl rfl inferInstance ?_) | (refine' aDq hR rfl rfl rfl inferInstance rfl ?_; clear hR; intro w hR) | (refine' aEq hR rfl rfl rfl inferInstance rfl rfl ?_; clear hR; intro w hR) | fail)
                exact hK.out _ _ (xAu rfl rfl rfl) hR
              case he =>
                clear hR
                intro tm w ht hR K
                simp only [Int.natCast_zero, Int.sub_zero] at ht
                simp only [Nat.sub_zero] at hR
                rw [← hres.out] at hR
                clear hres
                generalize hout : hashF xs = out at *
                have hone := u8s_one 32 out
                repeat (first | (obtain ⟨x, tm', e, ht'⟩ := xAf ht; clear ht; subst e; have ht := ht'; clear ht') | (obtain ⟨tm', e, ht'⟩ := xAc ht; clear ht; subst e; have ht := ht'; clear ht'))
                obtain rfl := xAk ht
                clear ht
                go_wp2_with (first | (refine' aDq hR rfl rfl rfl inferInstance rfl ?_; clear hR; intro w hR; refine cutHere ?_) | (refine' xAb hR rfl rfl rfl ?_; clear hR; intro blk w hR) | (refine' xAa hR rfl rfl inferInstance ?_; clear hR; intro blk w hR) | (refine' aFq hR rfl rfl rfl inferInstance ?_) | (refine' aGq hR rfl rfl rfl inferInstance ?_) | (refine' aHq hR rfl rfl rfl inferInstance ?_) | (refine' aDq hR rfl rfl rfl inferInstance rfl ?_; clear hR; intro w hR) | (refine' aEq hR rfl rfl rfl inferInstance rfl rfl ?_; clear hR; intro w hR) | fail)
                unfold Stop
                refine wpList_nil ?_
                simp only [Exit.then]
                rename_i Kz kz
                refine kz _ _ (wp_ret ?_)
                subst hout
                (refine' bodyPost_ret (xBq Tryz.results97 rfl (hR.loadAll (P := Tryz.prog) (ty := 28) ?hm ?hn)) rfl ⟨rfl, ?_⟩; (case hm => exact .tail _ (.tail _ (.tail _ (.tail _ (.head _))))); (case hn => simp))
                exact hR.drop1.drop1.drop1.drop1.drop1
          · have g1 : (k : Int) < 8 := by omega
            obtain ⟨k8, hk8⟩ : ∃ x, 8 * k = x := ⟨_, rfl⟩
            obtain ⟨sh, hsh⟩ : ∃ x, 56 - k8 = x := ⟨_, rfl⟩
            have e1 : IntKind.i64.wrap (8 * (k : Int)) = (k8 : Int) := by rw [IntKind.wrap_i64]; omega
            have e2 : IntKind.i64.wrap (56 - (k8 : Int)) = (sh : Int) := by rw [IntKind.wrap_i64]; omega
            have g2 : 0 ≤ (sh : Int) := by omega
            have g3 : (sh : Int) < 64 := by omega
            obtain ⟨v, hv⟩ : ∃ v, padF xs n = v := ⟨_, rfl⟩
            have e3 : IntKind.u8.wrap ((m8 : Int) / 2 ^ sh) = (v : Int) := by
              have ht8 := tailF_len N (i := k) (by omega)
              have hp8 := padF_right xs (1 + gapN N + k)
              rw [hN.out, show N + (1 + gapN N + k) = n by have := hlast.out; omega, hv, ht8, hm8.out, hk8, hsh] at hp8
              rw [hp8, IntKind.wrap_u8]
              simp
            have g4 : IntKind.i64.wrap ((k : Int) + 1) = (k : Int) + 1 := by rw [IntKind.wrap_i64]; omega
            have hn63 : n + 1 ≤ maxLen := by unfold maxLen; have := hlast.out; omega
            have hnb : (n + 1) * 1 ≤ 140737488355328 := by have := hlast.out; omega
            have ek2 : ((n + 1 : Nat) : Int) - (n0 : Nat) = (k : Int) + 1 := by omega
            replace hk := Held.mk hk
            replace hk8 := Held.mk hk8
            replace hsh := Held.mk hsh
            replace hv := Held.mk hv
            replace bis := Held.mk bis
            replace blen := Held.mk blen
            replace ek2 := Held.mk ek2
            replace ek := Held.mk ek
            repeat (first | (obtain ⟨x, tm', e, ht'⟩ := xAf ht; clear ht; subst e; have ht := ht'; clear ht') | (obtain ⟨tm', e, ht'⟩ := xAc ht; clear ht; subst e; have ht := ht'; clear ht'))
            obtain rfl := xAk ht
            clear ht
            go_wp2_with (first | (refine' xAb hR rfl rfl rfl ?_; clear hR; intro blk w hR) | (refine' xAa hR rfl rfl inferInstance ?_; clear hR; intro blk w hR) | (refine' aFq hR rfl rfl rfl inferInstance ?_) | (refine' aGq hR rfl rfl rfl inferInstance ?_) | (refine' aHq hR rfl rfl rfl inferInstance ?_) | (refine' aDq hR rfl rfl rfl inferInstance rfl ?_; clear hR; intro w hR) | (refine' aEq hR rfl rfl rfl inferInstance rfl rfl ?_; clear hR; intro w hR) | (refine' xBp hR rfl rfl rfl (xCw _) ?_; clear hR; intro bt w hR) | (refine' xCd hR rfl rfl Tryz.underlying49 hi hz0 hz1 hz2 rfl rfl rfl ble bbig blen.out rfl hn63 hnb ?_; clear hR; intro g' cap' cur' w hR c1 c2 c3 c4))
            refine hK.out ⟨n + 1, g', cap', cur'⟩ _ _ ⟨⟨by show n0 ≤ n + 1; omega, by show n + 1 ≤ 8 + n0; have := hk.out; omega⟩, c1, c2, c3, ?_⟩ (by show 8 + n0 - (n + 1) < 8 + n0 - n; have := hk.out; omega) (by simp only [ek2.out]; exact xAu rfl rfl rfl) hR
            show cur'.take (n + 1) = u8s (n + 1) (padF xs)
            rw [c4, bis.out, u8s_succ, hv.out]
      · have t1 : ((q : Int) != 56) = true := by
          have h := fun h => hlast (hq56.1 h)
          rw [bne_iff_ne]
          intro h'
          exact h (by omega)
        have htl : padF xs n = 0 := by
          obtain ⟨k, hk⟩ : ∃ k, n = N + (1 + k) := ⟨n - N - 1, by omega⟩
          have := padF_right xs (1 + k)
          rw [hN.out, ← hk] at this
          rw [this, tailF_gap N (by omega)]
        have hn63 : n + 1 ≤ maxLen := by unfold maxLen; omega
        have hnb : (n + 1) * 1 ≤ 140737488355328 := by omega
        replace hq := Held.mk hq
        replace bis := Held.mk bis
        replace blen := Held.mk blen
        replace htl := Held.mk htl
        clear hq56
        repeat (first | (obtain ⟨x, tm', e, ht'⟩ := xAf ht; clear ht; subst e; have ht := ht'; clear ht') | (obtain ⟨tm', e, ht'⟩ := xAc ht; clear ht; subst e; have ht := ht'; clear ht'))
        obtain rfl := xAk ht
        clear ht
        go_wp2_with (first | (refine' xAb hR rfl rfl rfl ?_; clear hR; intro blk w hR) | (refine' xAa hR rfl rfl inferInstance ?_; clear hR; intro blk w hR) | (refine' aFq hR rfl rfl rfl inferInstance ?_) | (refine' aGq hR rfl rfl rfl inferInstance ?_) | (refine' aHq hR rfl rfl rfl inferInstance ?_) | (refine' aDq hR rfl rfl rfl inferInstance rfl ?_; clear hR; intro w hR) | (refine' aEq hR rfl rfl rfl inferInstance rfl rfl ?_; clear hR; intro w hR) | (refine' xBp hR rfl rfl rfl (xCw _) ?_; clear hR; intro bt w hR) | (refine' xCd hR rfl rfl Tryz.underlying49 hi hz0 hz1 hz2 rfl rfl rfl ble bbig blen.out rfl hn63 hnb ?_; clear hR; intro g' cap' cur' w hR c1 c2 c3 c4))
        refine hK.out ⟨n + 1, g', cap', cur'⟩ _ _ ⟨⟨by show N + 1 ≤ n + 1; omega, by show n + 1 ≤ N + 1 + gapN N; omega⟩, c1, c2, c3, ?_⟩ (by show N + 1 + gapN N - (n + 1) < N + 1 + gapN N - n; omega) (xAu rfl rfl rfl) hR
        show cur'.take (n + 1) = u8s (n + 1) (padF xs)
        rw [c4, bis.out, u8s_succ, htl.out]
        rfl
end Go.Proofs.YtgfoeongjhkdmaaGreat
namespace Go.Proofs.YtgfoeongjhkdmaaGreat
open Go.RowKit
attribute [local irreducible] Calls
end Go.Proofs.YtgfoeongjhkdmaaGreat
