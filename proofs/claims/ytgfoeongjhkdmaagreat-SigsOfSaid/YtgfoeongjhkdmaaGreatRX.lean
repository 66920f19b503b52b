/- The contracts of balefireref01.Put and PutBytes. -/
import Derived.Test.YtgfoeongjhkdmaaGreatRF
import Derived.Test.YtgfoeongjhkdmaaGreatRG
import Derived.Test.YtgfoeongjhkdmaaGreatRE
import Derived.Test.YtgfoeongjhkdmaaGreatRK
set_option linter.unusedVariables false
set_option linter.unusedSimpArgs false
namespace Go.Proofs.YtgfoeongjhkdmaaGreat
open Go.RowKit
attribute [local irreducible] Calls
def FreshG (B0 : Nat) (w0 : World) (L : List (Nat × Obj)) (e : Ending) (w' : World) (ys : List Nat) : Prop := ∃ x : Gro, GroOk x ys ∧ e = .returned (.slice x.a ys.length x.cap) ∧ Rep B0 w0 (x.bl ++ L) w'
theorem gro_nil : GroOk ⟨none, 0, []⟩ [] := .inl ⟨rfl, rfl⟩
section
variable {B0 : Nat} {w0 w : World} {L : List (Nat × Obj)}
theorem gro_at {x : Gro} {m : List Nat} (h : GroOk x m) (hb : ∀ j, m.getD j 0 < 256) : xBo B0 w0 (x.bl ++ L) (.slice x.a m.length x.cap) m :=
  (gro_slice (L := L) h hb).mono fun w hw => hw.permB List.perm_append_comm
theorem xCj {R : List (Nat × Obj)} {L' : List (Nat × Obj) → List (Nat × Obj)} {ops : Array Oper} {rest : List Oper} {o : Oper} {a : Act} {Q : Exit → Act → World → Prop} {x : Gro} {m xs : List Nat} {v : Value} {n k : Nat} (hR : Rep B0 w0 (L' x.bl) w) (hp : ∀ l, (L' l).Perm (l ++ R)) (hgd : o.guard = none) {s y : Operand} (ho : o.op = .call { callee := .builtin .append, args := #[s, y], argTypes := #[49, 49] })
    (hs : a.eval s = .slice x.a n x.cap) (hy : a.eval y = v) (hn : m.length = n) (hk : n + xs.length = k) (hg : GroOk x m) (hv : xBo B0 w0 R v xs) (hbig : k ≤ 100000000)
    (h : ∀ (x' : Gro) w', GroOk x' (m ++ xs) → Rep B0 w0 (L' x'.bl) w' → wpList Tryz.prog ops Q rest (a.put o.dst (.slice x'.a k x'.cap)) w') : wpList Tryz.prog ops Q (o :: rest) a w := by
  subst hn
  have hR0 : Rep B0 w0 (x.bl ++ R) w := hR.permB (hp _)
  have hRR : Rep B0 w0 R w := hR0.weaken (List.sublist_append_right _ _)
  obtain ⟨i0, hi, hz0, hz1, hz2⟩ := info_parts info_u8
  obtain ⟨ay, cy, rfl, c1, c2, c3, c4⟩ := hv
  by_cases hxs : xs = []
  · subst hxs
    obtain rfl : m.length = k := hk
    have hm : m ++ [] = m := List.append_nil m
    rw [hm] at h
    rcases hg with ⟨rfl, rfl⟩ | ⟨g, cur, ha, hbl, h1, h2, h3, h4⟩
    · exact wpList_appendNone hgd ho hs hy (h ⟨none, 0, []⟩ w (.inl ⟨rfl, rfl⟩) hR)
    · rw [ha] at hs
      refine wpList_appendZero hgd ho h1 h2 hs hy ?_
      have := h x w (.inr ⟨g, cur, ha, hbl, h1, h2, h3, h4⟩) hR
      rw [ha] at this
      exact this
  · obtain ⟨bb, off, rfl, c5⟩ := c4 hxs
    have hpos : 0 < xs.length := by
      have : xs.length ≠ 0 := fun h => hxs (List.length_eq_zero_iff.1 h)
      omega
    have hsrc : ∀ j u, (u8s xs.length fun j => xs.getD j 0)[j]? = some u → w.cell? ((⟨bb, off, none⟩ : Addr).add j) = some u := fun j u hj => by
      have hjn : j < xs.length := by
        have := (List.getElem?_eq_some_iff.1 hj).1
        simpa using this
      rw [u8s_at hjn] at hj
      rw [← Option.some.inj hj, addr_none]
      exact c5 w hRR j hjn
    have hone := u8s_mem xs.length (fun j => xs.getD j 0)
    have hln := xCr xs.length (fun j => xs.getD j 0)
    have hl : (m ++ xs).length = k := by rw [List.length_append, hk]
    rcases hg with ⟨rfl, rfl⟩ | ⟨g, cur, ha, hbl, h1, h2, h3, h4⟩
    · have hk0 : xs.length = k := by simpa using hk
      subst hk0
      refine xCp hRR hgd ho Tryz.underlying49 hi hz0 hz1 hz2 rfl hs hy hln hpos hsrc hone (by unfold maxLen; omega) (by omega) ?_
      intro g' cap' cur' w' hR' d1 d2 d3 d4
      refine h ⟨some ⟨g', 0, none⟩, cap', [(g', .cells cur'.toArray 5)]⟩ w' (.inr ⟨g', cur', rfl, rfl, by simpa using d1, d2, d3, ?_⟩) (hR'.permB (hp [(g', .cells cur'.toArray 5)]).symm)
      simpa using d4
    · rw [ha] at hs
      rw [hbl] at hR0
      refine wpList_appendRep (L := R) hR0 hgd ho Tryz.underlying49 hi hz0 hz1 hz2 rfl hs h1 h2 h3 hy hln hsrc hone (by unfold maxLen; omega) (by omega) ?_
      intro g' cap' cur' w' hR' d1 d2 d3 d4
      have := h ⟨some ⟨g', 0, none⟩, cap', [(g', .cells cur'.toArray 5)]⟩ w' (.inr ⟨g', cur', rfl, rfl, by rw [List.length_append]; exact d1, d2, d3, ?_⟩) (hR'.permB (hp [(g', .cells cur'.toArray 5)]).symm)
      · rw [← hk] at this
        exact this
      · rw [u8s_app, ← h4, List.length_append]
        exact d4
theorem byte_slice {b c : Nat} {R : List (Nat × Obj)} (hm : (b, Obj.cells [Value.int .u8 (c : Int)].toArray 5) ∈ R) (hc : c < 256) : xBo B0 w0 R (.slice (some ⟨b, 0, none⟩) 1 1) [c] :=
  ⟨_, 1, rfl, Nat.le_refl 1, by unfold maxLen; decide, fun j => by
    cases j with
    | zero => exact hc
    | succ j => exact (by decide : 0 < 256), fun _ => ⟨b, 0, rfl, fun w hw j hj => by
    obtain rfl : j = 0 := by simpa using hj
    exact hw.cell (off := 0) hm rfl⟩⟩
noncomputable def lowL (z i : Nat) : List Nat := (List.range i).map fun j => z / 256 ^ j % 256
theorem xCy (z i : Nat) : (lowL z i).length = i := by unfold lowL; simp
theorem lowL_succ (z i : Nat) : lowL z (i + 1) = lowL z i ++ [z / 256 ^ i % 256] := by unfold lowL; rw [List.range_succ, List.map_append]; rfl
theorem lowL_at (z : Nat) {i j : Nat} (h : j < i) : (lowL z i).getD j 0 = z / 256 ^ j % 256 := by
  unfold lowL; rw [List.getD_eq_getElem?_getD, List.getElem?_map, List.getElem?_range h]; rfl
theorem beL_take (n z : Nat) {j : Nat} (h : j < n) : (beL n z).take (j + 1) = (beL n z).take j ++ [z / 256 ^ (n - 1 - j) % 256] := by
  rw [List.take_add_one]
  congr 1
  unfold beL
  rw [List.getElem?_map, List.getElem?_range h]
  show [beF n z j] = _
  rw [beF_def, show (256 : Nat) = 2 ^ 8 from rfl, ← Nat.pow_mul]
set_option maxRecDepth 100000 in
set_option maxHeartbeats 8000000 in
theorem ref_put (v : Value) (xs : List Nat) (nb z : Nat) (hnb : 1 ≤ nb ∧ nb ≤ 8) (hz : z < 18446744073709551616) (hbig : xs.length ≤ 10000000) (hv : xBo B0 w0 L v xs) (hR : Rep B0 w0 L w) :
    Calls Tryz.prog 74 #[v, .int .u64 (z : Int), .int .i64 (nb : Int)] w fun e w' => FreshG B0 w0 L e w' (xs ++ beL nb z) := by
  have hv0 := hv
  obtain ⟨av, cv, rfl, d1, d2, d3, d4⟩ := hv
  obtain ⟨N, hN⟩ : ∃ N, xs.length = N := ⟨_, rfl⟩
  rw [hN] at hbig d1 hv0 ⊢
  have m1 : max (0 : Int) (nb : Int) = (nb : Int) := by omega
  have m2 : min (8 : Int) (nb : Int) = (nb : Int) := by omega
  have m3 : max (nb : Int) (0 : Int) = (nb : Int) := by omega
  have m4 : min (nb : Int) (8 : Int) = (nb : Int) := by omega
  replace hN := Held.mk hN
  replace hv0 := Held.mk hv0
  clear d4 d1
  go_enter Tryz.func74, Tryz.ntmps74
  go_wp2_with (first | (refine' xAb hR rfl rfl rfl ?_; clear hR; intro blk w hR) | (refine' xAa hR rfl rfl inferInstance ?_; clear hR; intro blk w hR) | (refine' aFq hR rfl rfl rfl inferInstance ?_) | (refine' aGq hR rfl rfl rfl inferInstance ?_) | (refine' aHq hR rfl rfl rfl inferInstance ?_) | (refine' aDq hR rfl rfl rfl inferInstance rfl ?_; clear hR; intro w hR) | (refine' aEq hR rfl rfl rfl inferInstance rfl rfl ?_; clear hR; intro w hR) | (refine' xCj (m := []) (x := ⟨none, 0, []⟩) (L' := fun l => l ++ L) (R := L) hR (fun l => List.Perm.refl _) rfl rfl rfl rfl rfl ((Nat.zero_add _).trans hN.out) gro_nil hv0.out (by omega) ?_; clear hR; intro og w hx hR; replace hx := Held.mk hx))
  · skip
    refine' xCc (false :: false :: false :: false :: false :: false :: false :: false :: false :: false :: false :: false :: false :: false :: false :: false :: false :: true :: true :: true :: true :: true :: true :: true :: true :: true :: true :: true :: true :: true :: false :: false :: false :: false :: false :: false :: false :: false :: false :: false :: false :: false :: false :: false :: []) (fun (s : Gro × Nat) l => ((l.set 1 (.int .u64 ((z / 256 ^ s.2 : Nat) : Int))).set 9 (.slice s.1.a s.2 s.1.cap)).set 10 (.int .i64 (s.2 : Int))) (fun s => s.1.bl ++ (og.bl ++ L)) (fun s => nb - s.2) (fun s => s.2 ≤ nb ∧ GroOk s.1 (lowL z s.2)) (⟨none, 0, []⟩, 0) ?h0 ?hO ?hR ?hs
    case h0 =>
      simp only [Nat.pow_zero, Nat.div_one]
      exact xAu rfl rfl rfl
    case hO => exact ⟨Nat.zero_le _, gro_nil⟩
    case hR => exact hR
    case hs =>
      clear hR
      intro s tm w hO ht hR K hK
      obtain ⟨y, i⟩ := s
      obtain ⟨hi, hy⟩ := hO
      simp only at hi hy ht hR
      have g0 : 0 ≤ (i : Int) := by omega
      by_cases hin : i = nb
      · subst hin
        clear hK
        obtain ⟨g, cur, yc, hcur, rfl⟩ : ∃ g, ∃ cur : List Value, ∃ yc, (∀ k, k < i → cur[k]? = some (.int .u8 ((z / 256 ^ k % 256 : Nat) : Int))) ∧ y = ⟨some ⟨g, 0, none⟩, yc, [(g, .cells cur.toArray 5)]⟩ := by
          rcases hy with ⟨_, h⟩ | ⟨g, cur, ha, hbl, h1, h2, h3, h4⟩
          · have := xCy z i
            rw [h] at this
            have : 0 = i := this
            omega
          · refine ⟨g, cur, y.cap, fun k hk => ?_, ?_⟩
            · have := u8s_at (w := fun j => (lowL z i).getD j 0) (show k < (lowL z i).length by rw [xCy]; exact hk)
              rw [← h4, List.getElem?_take, if_pos (by rw [xCy]; exact hk), lowL_at z hk] at this
              exact this
            · cases y
              simp only at ha hbl
              rw [ha, hbl]
        clear hy
        replace hR : Rep B0 w0 ((g, .cells cur.toArray 5) :: (og.bl ++ L)) w := hR
        replace hR : Rep B0 w0 (og.bl ++ ((g, .cells cur.toArray 5) :: L)) w := hR.permB List.perm_middle.symm
        have t1 : ¬ (i : Int) < (i : Int) := by omega
        have e1 : IntKind.i64.wrap ((i : Int) - 1) = (i : Int) - 1 := by rw [IntKind.wrap_i64]; omega
        have x0 : (i : Int) - 1 - ((0 : Nat) : Int) = (i : Int) - 1 := by omega
        generalize (z / 256 ^ i : Nat) = zi at *
        repeat (first | (obtain ⟨x, tm', e, ht'⟩ := xAf ht; clear ht; subst e; have ht := ht'; clear ht') | (obtain ⟨tm', e, ht'⟩ := xAc ht; clear ht; subst e; have ht := ht'; clear ht'))
        obtain rfl := xAk ht
        clear ht
        go_wp2_with (first | (refine' xAb hR rfl rfl rfl ?_; clear hR; intro blk w hR) | (refine' xAa hR rfl rfl inferInstance ?_; clear hR; intro blk w hR) | (refine' aFq hR rfl rfl rfl inferInstance ?_) | (refine' aGq hR rfl rfl rfl inferInstance ?_) | (refine' aHq hR rfl rfl rfl inferInstance ?_) | (refine' aDq hR rfl rfl rfl inferInstance rfl ?_; clear hR; intro w hR) | (refine' aEq hR rfl rfl rfl inferInstance rfl rfl ?_; clear hR; intro w hR) | fail)
        clear t1
        replace x0 := Held.mk x0
        refine' xCc (false :: false :: false :: false :: false :: false :: false :: false :: false :: false :: false :: false :: false :: false :: false :: false :: false :: false :: false :: false :: false :: false :: false :: false :: false :: false :: false :: false :: false :: false :: false :: false :: true :: true :: true :: true :: true :: true :: true :: true :: true :: true :: true :: false :: []) (fun (s : Gro × Nat) l => (l.set 7 (.slice s.1.a (N + s.2) s.1.cap)).set 11 (.int .i64 ((i : Int) - 1 - ((s.2 : Nat) : Int)))) (fun s => s.1.bl ++ ((g, .cells cur.toArray 5) :: L)) (fun s => i - s.2) (fun s => s.2 ≤ i ∧ GroOk s.1 (xs ++ (beL i z).take s.2)) (og, 0) ?i0 ?iO ?iR ?iS
        case i0 =>
          simp only [x0.out, Nat.add_zero]
          exact xAu rfl rfl rfl
        case iO => exact ⟨Nat.zero_le _, by show GroOk og (xs ++ (beL i z).take 0); rw [List.take_zero, List.append_nil]; exact hx.out⟩
        case iR => exact hR
        case iS =>
          clear hR hx x0
          intro s tm w hO ht hR K hK
          obtain ⟨oh, j⟩ := s
          obtain ⟨hj, hx⟩ := hO
          simp only at hj hx ht hR
          by_cases hji : j = i
          · obtain rfl := hji
            clear hK
            have e2 : (j : Int) - 1 - (j : Int) = -1 := by omega
            rw [e2] at ht
            replace hx := Held.mk hx
            clear e2 e1 g0
            repeat (first | (obtain ⟨x, tm', e, ht'⟩ := xAf ht; clear ht; subst e; have ht := ht'; clear ht') | (obtain ⟨tm', e, ht'⟩ := xAc ht; clear ht; subst e; have ht := ht'; clear ht'))
            obtain rfl := xAk ht
            clear ht
            go_wp2_with (first | (refine' xAb hR rfl rfl rfl ?_; clear hR; intro blk w hR) | (refine' xAa hR rfl rfl inferInstance ?_; clear hR; intro blk w hR) | (refine' aFq hR rfl rfl rfl inferInstance ?_) | (refine' aGq hR rfl rfl rfl inferInstance ?_) | (refine' aHq hR rfl rfl rfl inferInstance ?_) | (refine' aDq hR rfl rfl rfl inferInstance rfl ?_; clear hR; intro w hR) | (refine' aEq hR rfl rfl rfl inferInstance rfl rfl ?_; clear hR; intro w hR) | fail)
            go_ret
            have e : xs ++ (beL j z).take j = xs ++ beL j z := by rw [List.take_of_length_le (by rw [xBr]; exact Nat.le_refl _)]
            refine ⟨oh, by rw [← e]; exact hx.out, ?_, hR.weaken (List.Sublist.append_left (List.sublist_cons_self _ _) _)⟩
            rw [List.length_append, xBr, hN.out]; rfl
          · obtain ⟨k, hk⟩ : ∃ k, i - 1 - j = k := ⟨_, rfl⟩
            have e2 : (i : Int) - 1 - (j : Int) = (k : Int) := by omega
            have e3 : (i : Int) - 1 - ((j + 1 : Nat) : Int) = (k : Int) - 1 := by omega
            have e4 : IntKind.i64.wrap ((k : Int) - 1) = (k : Int) - 1 := by rw [IntKind.wrap_i64]; omega
            rw [e2] at ht
            have g1 : 0 ≤ (k : Int) := by omega
            have hc := hcur k (by omega)
            have hcl := Nat.mod_lt (z / 256 ^ k) (show 0 < 256 by decide)
            have htk := beL_take i z (j := j) (by omega)
            rw [hk] at htk
            generalize z / 256 ^ k % 256 = c at *
            have hld := cell_load (ty := 5) (hR.cell (off := k) (List.mem_append_right _ (.head _)) hc)
            have gk : (k : Int) < (i : Int) := by omega
            have hnx : N + j + 1 = N + (j + 1) := by omega
            have hb : N + (j + 1) ≤ 100000000 := by omega
            have hlx : (xs ++ (beL i z).take j).length = N + j := by rw [List.length_append, List.length_take, xBr, hN.out]; omega
            have hmx : (xs ++ (beL i z).take j) ++ [c] = xs ++ (beL i z).take (j + 1) := by rw [htk]; simp
            have hji' : j + 1 ≤ i := by omega
            have hmu : i - (j + 1) < i - j := by omega
            replace hx := Held.mk hx
            replace hlx := Held.mk hlx
            replace hmx := Held.mk hmx
            replace hnx := Held.mk hnx
            replace hb := Held.mk hb
            replace hk := Held.mk hk
            replace hcl := Held.mk hcl
            replace e3 := Held.mk e3
            replace hji' := Held.mk hji'
            replace hmu := Held.mk hmu
            clear hc htk hj hji e2 e1 hbig
            repeat (first | (obtain ⟨x, tm', e, ht'⟩ := xAf ht; clear ht; subst e; have ht := ht'; clear ht') | (obtain ⟨tm', e, ht'⟩ := xAc ht; clear ht; subst e; have ht := ht'; clear ht'))
            obtain rfl := xAk ht
            clear ht
            go_wp2_with (first | (refine' xAb hR rfl rfl rfl ?_; clear hR; intro blk w hR) | (refine' xAa hR rfl rfl inferInstance ?_; clear hR; intro blk w hR) | (refine' aFq hR rfl rfl rfl inferInstance ?_) | (refine' aGq hR rfl rfl rfl inferInstance ?_) | (refine' aHq hR rfl rfl rfl inferInstance ?_) | (refine' aDq hR rfl rfl rfl inferInstance rfl ?_; clear hR; intro w hR) | (refine' aEq hR rfl rfl rfl inferInstance rfl rfl ?_; clear hR; intro w hR) | (refine' xCg rfl rfl rfl hld ?_) | (refine' xBp hR rfl rfl rfl (xCw _) ?_; clear hR; intro bt w hR) | (refine' xCj (xs := [c]) (L' := fun l => (bt, .cells [Value.int .u8 (c : Int)].toArray 5) :: (l ++ ((g, .cells cur.toArray 5) :: L))) hR (fun l => List.perm_middle.symm) rfl rfl rfl rfl hlx.out hnx.out hx.out (byte_slice (.head _) hcl.out) hb.out ?_; clear hR hx; intro oh w hx hR; replace hx := Held.mk hx; replace hR := hR.drop1))
            refine hK.out (oh, j + 1) _ _ ⟨hji'.out, ?_⟩ hmu.out (by simp only [e3.out]; exact xAu rfl rfl rfl) hR
            show GroOk oh (xs ++ (beL i z).take (j + 1))
            rw [← hmx.out]; exact hx.out
      · have g1 : (i : Int) < (nb : Int) := by omega
        obtain ⟨zi, hzi⟩ : ∃ a, z / 256 ^ i = a := ⟨_, rfl⟩
        have hzl : zi < 18446744073709551616 := by
          rw [← hzi]
          exact Nat.lt_of_le_of_lt (Nat.div_le_self _ _) hz
        have hsx := lowL_succ z i
        have hz2 : z / 256 ^ (i + 1) = zi / 256 := by rw [← hzi, Nat.pow_succ, Nat.div_div_eq_div_mul]
        rw [hzi] at ht hsx
        obtain ⟨c, hc⟩ : ∃ c, zi % 256 = c := ⟨_, rfl⟩
        obtain ⟨zj, hzj⟩ : ∃ c, zi / 256 = c := ⟨_, rfl⟩
        rw [hc] at hsx
        rw [hzj] at hz2
        have hcl : c < 256 := by omega
        have e1 : (zi : Int) % 256 = (c : Int) := by omega
        have e2 : (zi : Int).tmod 256 = (c : Int) := by rw [Int.tmod_eq_emod_of_nonneg (by omega)]; omega
        have e3 : IntKind.u8.wrap (c : Int) = (c : Int) := by rw [IntKind.wrap_u8]; omega
        have e4 : (zi : Int) / 256 = (zj : Int) := by omega
        have e5 : (zi : Int).tdiv 256 = (zj : Int) := by rw [Int.tdiv_eq_ediv_of_nonneg (by omega)]; omega
        have e6 : IntKind.i64.wrap ((i : Int) + 1) = ((i + 1 : Nat) : Int) := by rw [IntKind.wrap_i64]; omega
        have hll := xCy z i
        have hb : i + 1 ≤ 100000000 := by omega
        have hi1 : i + 1 ≤ nb := by omega
        have hmu : nb - (i + 1) < nb - i := by omega
        replace hy := Held.mk hy
        replace hcl := Held.mk hcl
        replace hsx := Held.mk hsx
        replace hll := Held.mk hll
        replace hz2 := Held.mk hz2
        replace hb := Held.mk hb
        replace hi1 := Held.mk hi1
        replace hmu := Held.mk hmu
        replace hc := Held.mk hc
        replace hzj := Held.mk hzj
        clear hin hi hzi hbig hx
        repeat (first | (obtain ⟨x, tm', e, ht'⟩ := xAf ht; clear ht; subst e; have ht := ht'; clear ht') | (obtain ⟨tm', e, ht'⟩ := xAc ht; clear ht; subst e; have ht := ht'; clear ht'))
        obtain rfl := xAk ht
        clear ht
        go_wp2_with (first | (refine' xAb hR rfl rfl rfl ?_; clear hR; intro blk w hR) | (refine' xAa hR rfl rfl inferInstance ?_; clear hR; intro blk w hR) | (refine' aFq hR rfl rfl rfl inferInstance ?_) | (refine' aGq hR rfl rfl rfl inferInstance ?_) | (refine' aHq hR rfl rfl rfl inferInstance ?_) | (refine' aDq hR rfl rfl rfl inferInstance rfl ?_; clear hR; intro w hR) | (refine' aEq hR rfl rfl rfl inferInstance rfl rfl ?_; clear hR; intro w hR) | (refine' xBp hR rfl rfl rfl (xCw _) ?_; clear hR; intro bt w hR) | (refine' xCj (xs := [c]) (L' := fun l => (bt, .cells [Value.int .u8 (c : Int)].toArray 5) :: (l ++ (og.bl ++ L))) hR (fun l => List.perm_middle.symm) rfl rfl rfl rfl hll.out rfl hy.out (byte_slice (.head _) hcl.out) hb.out ?_; clear hR hy; intro y w hy hR; replace hy := Held.mk hy; replace hR := hR.drop1))
        refine hK.out (y, i + 1) _ _ ⟨hi1.out, ?_⟩ hmu.out (by simp only [hz2.out]; exact xAu rfl rfl rfl) hR
        show GroOk y (lowL z (i + 1))
        rw [hsx.out]; exact hy.out
  all_goals
    have e8 : (8 : Int) = (nb : Int) := by omega
    rw [e8]; clear e8
    refine' xCc (false :: false :: false :: false :: false :: false :: false :: false :: false :: false :: false :: false :: false :: false :: false :: false :: false :: true :: true :: true :: true :: true :: true :: true :: true :: true :: true :: true :: true :: true :: false :: false :: false :: false :: false :: false :: false :: false :: false :: false :: false :: false :: false :: false :: []) (fun (s : Gro × Nat) l => ((l.set 1 (.int .u64 ((z / 256 ^ s.2 : Nat) : Int))).set 9 (.slice s.1.a s.2 s.1.cap)).set 10 (.int .i64 (s.2 : Int))) (fun s => s.1.bl ++ (og.bl ++ L)) (fun s => nb - s.2) (fun s => s.2 ≤ nb ∧ GroOk s.1 (lowL z s.2)) (⟨none, 0, []⟩, 0) ?qh0 ?qhO ?qhR ?qhs
    case qh0 =>
      simp only [Nat.pow_zero, Nat.div_one]
      exact xAu rfl rfl rfl
    case qhO => exact ⟨Nat.zero_le _, gro_nil⟩
    case qhR => exact hR
    case qhs =>
      clear hR
      intro s tm w hO ht hR K hK
      obtain ⟨y, i⟩ := s
      obtain ⟨hi, hy⟩ := hO
      simp only at hi hy ht hR
      have g0 : 0 ≤ (i : Int) := by omega
      by_cases hin : i = nb
      · subst hin
        clear hK
        obtain ⟨g, cur, yc, hcur, rfl⟩ : ∃ g, ∃ cur : List Value, ∃ yc, (∀ k, k < i → cur[k]? = some (.int .u8 ((z / 256 ^ k % 256 : Nat) : Int))) ∧ y = ⟨some ⟨g, 0, none⟩, yc, [(g, .cells cur.toArray 5)]⟩ := by
          rcases hy with ⟨_, h⟩ | ⟨g, cur, ha, hbl, h1, h2, h3, h4⟩
          · have := xCy z i
            rw [h] at this
            have : 0 = i := this
            omega
          · refine ⟨g, cur, y.cap, fun k hk => ?_, ?_⟩
            · have := u8s_at (w := fun j => (lowL z i).getD j 0) (show k < (lowL z i).length by rw [xCy]; exact hk)
              rw [← h4, List.getElem?_take, if_pos (by rw [xCy]; exact hk), lowL_at z hk] at this
              exact this
            · cases y
              simp only at ha hbl
              rw [ha, hbl]
        clear hy
        replace hR : Rep B0 w0 ((g, .cells cur.toArray 5) :: (og.bl ++ L)) w := hR
        replace hR : Rep B0 w0 (og.bl ++ ((g, .cells cur.toArray 5) :: L)) w := hR.permB List.perm_middle.symm
        have t1 : ¬ (i : Int) < (i : Int) := by omega
        have e1 : IntKind.i64.wrap ((i : Int) - 1) = (i : Int) - 1 := by rw [IntKind.wrap_i64]; omega
        have x0 : (i : Int) - 1 - ((0 : Nat) : Int) = (i : Int) - 1 := by omega
        generalize (z / 256 ^ i : Nat) = zi at *
        repeat (first | (obtain ⟨x, tm', e, ht'⟩ := xAf ht; clear ht; subst e; have ht := ht'; clear ht') | (obtain ⟨tm', e, ht'⟩ := xAc ht; clear ht; subst e; have ht := ht'; clear ht'))
        obtain rfl := xAk ht
        clear ht
        go_wp2_with (first | (refine' xAb hR rfl rfl rfl ?_; clear hR; intro blk w hR) | (refine' xAa hR rfl rfl inferInstance ?_; clear hR; intro blk w hR) | (refine' aFq hR rfl rfl rfl inferInstance ?_) | (refine' aGq hR rfl rfl rfl inferInstance ?_) | (refine' aHq hR rfl rfl rfl inferInstance ?_) | (refine' aDq hR rfl rfl rfl inferInstance rfl ?_; clear hR; intro w hR) | (refine' aEq hR rfl rfl rfl inferInstance rfl rfl ?_; clear hR; intro w hR) | fail)
        clear t1
        replace x0 := Held.mk x0
        refine' xCc (false :: false :: false :: false :: false :: false :: false :: false :: false :: false :: false :: false :: false :: false :: false :: false :: false :: false :: false :: false :: false :: false :: false :: false :: false :: false :: false :: false :: false :: false :: false :: false :: true :: true :: true :: true :: true :: true :: true :: true :: true :: true :: true :: false :: []) (fun (s : Gro × Nat) l => (l.set 7 (.slice s.1.a (N + s.2) s.1.cap)).set 11 (.int .i64 ((i : Int) - 1 - ((s.2 : Nat) : Int)))) (fun s => s.1.bl ++ ((g, .cells cur.toArray 5) :: L)) (fun s => i - s.2) (fun s => s.2 ≤ i ∧ GroOk s.1 (xs ++ (beL i z).take s.2)) (og, 0) ?qi0 ?qiO ?qiR ?qiS
        case qi0 =>
          simp only [x0.out, Nat.add_zero]
          exact xAu rfl rfl rfl
        case qiO => exact ⟨Nat.zero_le _, by show GroOk og (xs ++ (beL i z).take 0); rw [List.take_zero, List.append_nil]; exact hx.out⟩
        case qiR => exact hR
        case qiS =>
          clear hR hx x0
          intro s tm w hO ht hR K hK
          obtain ⟨oh, j⟩ := s
          obtain ⟨hj, hx⟩ := hO
          simp only at hj hx ht hR
          by_cases hji : j = i
          · obtain rfl := hji
            clear hK
            have e2 : (j : Int) - 1 - (j : Int) = -1 := by omega
            rw [e2] at ht
            replace hx := Held.mk hx
            clear e2 e1 g0
            repeat (first | (obtain ⟨x, tm', e, ht'⟩ := xAf ht; clear ht; subst e; have ht := ht'; clear ht') | (obtain ⟨tm', e, ht'⟩ := xAc ht; clear ht; subst e; have ht := ht'; clear ht'))
            obtain rfl := xAk ht
            clear ht
            go_wp2_with (first | (refine' xAb hR rfl rfl rfl ?_; clear hR; intro blk w hR) | (refine' xAa hR rfl rfl inferInstance ?_; clear hR; intro blk w hR) | (refine' aFq hR rfl rfl rfl inferInstance ?_) | (refine' aGq hR rfl rfl rfl inferInstance ?_) | (refine' aHq hR rfl rfl rfl inferInstance ?_) | (refine' aDq hR rfl rfl rfl inferInstance rfl ?_; clear hR; intro w hR) | (refine' aEq hR rfl rfl rfl inferInstance rfl rfl ?_; clear hR; intro w hR) | fail)
            go_ret
            have e : xs ++ (beL j z).take j = xs ++ beL j z := by rw [List.take_of_length_le (by rw [xBr]; exact Nat.le_refl _)]
            refine ⟨oh, by rw [← e]; exact hx.out, ?_, hR.weaken (List.Sublist.append_left (List.sublist_cons_self _ _) _)⟩
            rw [List.length_append, xBr, hN.out]; rfl
          · obtain ⟨k, hk⟩ : ∃ k, i - 1 - j = k := ⟨_, rfl⟩
            have e2 : (i : Int) - 1 - (j : Int) = (k : Int) := by omega
            have e3 : (i : Int) - 1 - ((j + 1 : Nat) : Int) = (k : Int) - 1 := by omega
            have e4 : IntKind.i64.wrap ((k : Int) - 1) = (k : Int) - 1 := by rw [IntKind.wrap_i64]; omega
            rw [e2] at ht
            have g1 : 0 ≤ (k : Int) := by omega
            have hc := hcur k (by omega)
            have hcl := Nat.mod_lt (z / 256 ^ k) (show 0 < 256 by decide)
            have htk := beL_take i z (j := j) (by omega)
            rw [hk] at htk
            generalize z / 256 ^ k % 256 = c at *
            have hld := cell_load (ty := 5) (hR.cell (off := k) (List.mem_append_right _ (.head _)) hc)
            have gk : (k : Int) < (i : Int) := by omega
            have hnx : N + j + 1 = N + (j + 1) := by omega
            have hb : N + (j + 1) ≤ 100000000 := by omega
            have hlx : (xs ++ (beL i z).take j).length = N + j := by rw [List.length_append, List.length_take, xBr, hN.out]; omega
            have hmx : (xs ++ (beL i z).take j) ++ [c] = xs ++ (beL i z).take (j + 1) := by rw [htk]; simp
            have hji' : j + 1 ≤ i := by omega
            have hmu : i - (j + 1) < i - j := by omega
            replace hx := Held.mk hx
            replace hlx := Held.mk hlx
            replace hmx := Held.mk hmx
            replace hnx := Held.mk hnx
            replace hb := Held.mk hb
            replace hk := Held.mk hk
            replace hcl := Held.mk hcl
            replace e3 := Held.mk e3
            replace hji' := Held.mk hji'
            replace hmu := Held.mk hmu
            clear hc htk hj hji e2 e1 hbig
            repeat (first | (obtain ⟨x, tm', e, ht'⟩ := xAf ht; clear ht; subst e; have ht := ht'; clear ht') | (obtain ⟨tm', e, ht'⟩ := xAc ht; clear ht; subst e; have ht := ht'; clear ht'))
            obtain rfl := xAk ht
            clear ht
            go_wp2_with (first | (refine' xAb hR rfl rfl rfl ?_; clear hR; intro blk w hR) | (refine' xAa hR rfl rfl inferInstance ?_; clear hR; intro blk w hR) | (refine' aFq hR rfl rfl rfl inferInstance ?_) | (refine' aGq hR rfl rfl rfl inferInstance ?_) | (refine' aHq hR rfl rfl rfl inferInstance ?_) | (refine' aDq hR rfl rfl rfl inferInstance rfl ?_; clear hR; intro w hR) | (refine' aEq hR rfl rfl rfl inferInstance rfl rfl ?_; clear hR; intro w hR) | (refine' xCg rfl rfl rfl hld ?_) | (refine' xBp hR rfl rfl rfl (xCw _) ?_; clear hR; intro bt w hR) | (refine' xCj (xs := [c]) (L' := fun l => (bt, .cells [Value.int .u8 (c : Int)].toArray 5) :: (l ++ ((g, .cells cur.toArray 5) :: L))) hR (fun l => List.perm_middle.symm) rfl rfl rfl rfl hlx.out hnx.out hx.out (byte_slice (.head _) hcl.out) hb.out ?_; clear hR hx; intro oh w hx hR; replace hx := Held.mk hx; replace hR := hR.drop1))
            refine hK.out (oh, j + 1) _ _ ⟨hji'.out, ?_⟩ hmu.out (by simp only [e3.out]; exact xAu rfl rfl rfl) hR
            show GroOk oh (xs ++ (beL i z).take (j + 1))
            rw [← hmx.out]; exact hx.out
      · have g1 : (i : Int) < (nb : Int) := by omega
        obtain ⟨zi, hzi⟩ : ∃ a, z / 256 ^ i = a := ⟨_, rfl⟩
        have hzl : zi < 18446744073709551616 := by
          rw [← hzi]
          exact Nat.lt_of_le_of_lt (Nat.div_le_self _ _) hz
        have hsx := lowL_succ z i
        have hz2 : z / 256 ^ (i + 1) = zi / 256 := by rw [← hzi, Nat.pow_succ, Nat.div_div_eq_div_mul]
        rw [hzi] at ht hsx
        obtain ⟨c, hc⟩ : ∃ c, zi % 256 = c := ⟨_, rfl⟩
        obtain ⟨zj, hzj⟩ : ∃ c, zi / 256 = c := ⟨_, rfl⟩
        rw [hc] at hsx
        rw [hzj] at hz2
        have hcl : c < 256 := by omega
        have e1 : (zi : Int) % 256 = (c : Int) := by omega
        have e2 : (zi : Int).tmod 256 = (c : Int) := by rw [Int.tmod_eq_emod_of_nonneg (by omega)]; omega
        have e3 : IntKind.u8.wrap (c : Int) = (c : Int) := by rw [IntKind.wrap_u8]; omega
        have e4 : (zi : Int) / 256 = (zj : Int) := by omega
        have e5 : (zi : Int).tdiv 256 = (zj : Int) := by rw [Int.tdiv_eq_ediv_of_nonneg (by omega)]; omega
        have e6 : IntKind.i64.wrap ((i : Int) + 1) = ((i + 1 : Nat) : Int) := by rw [IntKind.wrap_i64]; omega
        have hll := xCy z i
        have hb : i + 1 ≤ 100000000 := by omega
        have hi1 : i + 1 ≤ nb := by omega
        have hmu : nb - (i + 1) < nb - i := by omega
        replace hy := Held.mk hy
        replace hcl := Held.mk hcl
        replace hsx := Held.mk hsx
        replace hll := Held.mk hll
        replace hz2 := Held.mk hz2
        replace hb := Held.mk hb
        replace hi1 := Held.mk hi1
        replace hmu := Held.mk hmu
        replace hc := Held.mk hc
        replace hzj := Held.mk hzj
        clear hin hi hzi hbig hx
        repeat (first | (obtain ⟨x, tm', e, ht'⟩ := xAf ht; clear ht; subst e; have ht := ht'; clear ht') | (obtain ⟨tm', e, ht'⟩ := xAc ht; clear ht; subst e; have ht := ht'; clear ht'))
        obtain rfl := xAk ht
        clear ht
        go_wp2_with (first | (refine' xAb hR rfl rfl rfl ?_; clear hR; intro blk w hR) | (refine' xAa hR rfl rfl inferInstance ?_; clear hR; intro blk w hR) | (refine' aFq hR rfl rfl rfl inferInstance ?_) | (refine' aGq hR rfl rfl rfl inferInstance ?_) | (refine' aHq hR rfl rfl rfl inferInstance ?_) | (refine' aDq hR rfl rfl rfl inferInstance rfl ?_; clear hR; intro w hR) | (refine' aEq hR rfl rfl rfl inferInstance rfl rfl ?_; clear hR; intro w hR) | (refine' xBp hR rfl rfl rfl (xCw _) ?_; clear hR; intro bt w hR) | (refine' xCj (xs := [c]) (L' := fun l => (bt, .cells [Value.int .u8 (c : Int)].toArray 5) :: (l ++ (og.bl ++ L))) hR (fun l => List.perm_middle.symm) rfl rfl rfl rfl hll.out rfl hy.out (byte_slice (.head _) hcl.out) hb.out ?_; clear hR hy; intro y w hy hR; replace hy := Held.mk hy; replace hR := hR.drop1))
        refine hK.out (y, i + 1) _ _ ⟨hi1.out, ?_⟩ hmu.out (by simp only [hz2.out]; exact xAu rfl rfl rfl) hR
        show GroOk y (lowL z (i + 1))
        rw [hsx.out]; exact hy.out
theorem ref_bytes (v v2 : Value) (xs ys : List Nat) (hbig : xs.length + ys.length ≤ 5000000) (hv : xBo B0 w0 L v xs) (hv2 : xBo B0 w0 L v2 ys) (hR : Rep B0 w0 L w) :
    Calls Tryz.prog 111 #[v, v2] w fun e w' => FreshG B0 w0 L e w' (xs ++ beL 4 ys.length ++ ys) := by
  have hv2' := hv2
  obtain ⟨a2, c2, rfl, d1, d2, d3, d4⟩ := hv2'
  obtain ⟨N, hN⟩ : ∃ N, ys.length = N := ⟨_, rfl⟩
  have cp := fun (w : World) (hR : Rep B0 w0 L w) => ref_put v xs 4 N (by decide) (by omega) (by omega) hv hR
  rw [hN] at hv2 ⊢
  have fN : IntKind.u64.wrap (N : Int) = (N : Int) := by rw [IntKind.wrap_u64]; omega
  generalize hm : xs ++ beL 4 N = m at *
  have hml : m.length = xs.length + 4 := by rw [← hm, List.length_append, xBr]
  have hk : m.length + ys.length = (m ++ ys).length := List.length_append.symm
  have hb : (m ++ ys).length ≤ 100000000 := by rw [← hk]; omega
  replace hv2 := Held.mk hv2
  replace hk := Held.mk hk
  replace hb := Held.mk hb
  replace hN := Held.mk hN
  clear hml hm d1 d2 d3 d4 hbig hv
  go_enter Tryz.func111, Tryz.ntmps111
  go_wp2_with (first | (refine' xAb hR rfl rfl rfl ?_; clear hR; intro blk w hR) | (refine' xAa hR rfl rfl inferInstance ?_; clear hR; intro blk w hR) | (refine' aFq hR rfl rfl rfl inferInstance ?_) | (refine' aGq hR rfl rfl rfl inferInstance ?_) | (refine' aHq hR rfl rfl rfl inferInstance ?_) | (refine' aDq hR rfl rfl rfl inferInstance rfl ?_; clear hR; intro w hR) | (refine' aEq hR rfl rfl rfl inferInstance rfl rfl ?_; clear hR; intro w hR) | (go_at_call 74; refine (cp _ hR).mono ?_; clear hR cp; rintro e w ⟨x, hx, rfl, hR⟩; replace hx := Held.mk hx) | (refine' xCj (L' := fun l => l ++ L) (R := L) hR (fun l => List.Perm.refl _) rfl rfl rfl rfl rfl hk.out hx.out hv2.out hb.out ?_; clear hR hx; intro x w hx hR; replace hx := Held.mk hx))
  go_ret
  exact ⟨x, hx.out, by rw [List.length_append]; rfl, hR⟩
end
end Go.Proofs.YtgfoeongjhkdmaaGreat
namespace Go.Proofs.YtgfoeongjhkdmaaGreat
open Go.RowKit
attribute [local irreducible] Calls
section
variable {B0 : Nat} {w0 w : World} {L : List (Nat × Obj)}
set_option maxRecDepth 100000 in
set_option maxHeartbeats 8000000 in
theorem ref6_bytes (s : ByteArray) (v : Value) (xss : List (List Nat)) (hs : s.size ≤ 100000) (h200 : xss.length ≤ 1000) (htot : totL xss xss.length ≤ 1000000) (hv : RowsOf B0 w0 L v xss) (hR : Rep B0 w0 L w) :
    Calls Tryz.prog 98 #[.string s, v] w fun e w' => FreshG B0 w0 L e w' (encB (strB s) xss) := by
  obtain ⟨a, cp, V, rfl, h1, h2, h4, h5⟩ := hv
  obtain ⟨N, hN⟩ : ∃ N, xss.length = N := ⟨_, rfl⟩
  have hpart : ∀ j, j < N → (xss.getD j []).length ≤ 1000000 := fun j hj => by
    have := totL_part xss (j := j) (by omega)
    omega
  have ele : ∀ i, i ≤ N → (encR xss i).length ≤ 1010000 := fun i hi => by
    rw [encR_tot xss i (by omega)]
    have := totL_mono xss i xss.length (by omega) (Nat.le_refl _)
    omega
  rw [hN] at h1 h200 h4 h5 ⊢
  have fN : IntKind.u64.wrap (N : Int) = (N : Int) := by rw [IntKind.wrap_u64]; omega
  have enc : encB (strB s) xss = encH (strB s) N ++ encR xss N := by unfold encB; rw [hN]
  have hle : (encH (strB s) N).length ≤ 200000 := by unfold encH; rw [List.length_append, List.length_append, xBr, xBr, xCo]; omega
  have hencb : ∀ i j, i ≤ N → (encH (strB s) N ++ encR xss i).getD j 0 < 256 := fun i j hi => by
    have h0 : ∀ j, (encH (strB s) N).getD j 0 < 256 := fun j => xBz (xBz (beL_lt _ _) (strB_lt s)) (beL_lt _ _) j
    refine xBz h0 ?_ j
    have : ∀ i, i ≤ N → ∀ j, (encR xss i).getD j 0 < 256 := fun i => by
      induction i with
      | zero => intro _ j; rw [encR_zero]; exact (by decide : 0 < 256)
      | succ i ih =>
        intro h j
        rw [encR_succ xss (by omega)]
        refine xBz (xBz (ih (by omega)) (beL_lt _ _)) ?_ j
        obtain ⟨⟨_, _, _, _, _, hb, _⟩, _⟩ := h4 i (by omega)
        exact hb
    exact this i hi
  obtain ⟨ys1, hy1⟩ : ∃ ys, [] ++ beL 4 (strB s).length ++ strB s = ys := ⟨_, rfl⟩
  have cp1 := fun (L' : List (Nat × Obj)) (v' : Value) (w' : World) (hv : xBo B0 w0 L' v' (strB s)) (hR : Rep B0 w0 L' w') => ref_bytes (.slice none 0 0) v' [] (strB s) (by rw [xCo]; simp; omega) sliceOf_nil hv hR
  rw [hy1] at cp1
  have l1 : ys1.length ≤ 200000 := by rw [← hy1, List.length_append, List.length_append, xBr, xCo]; simp; omega
  have b1 : ∀ j, ys1.getD j 0 < 256 := by rw [← hy1]; exact xBz (xBz (fun j => (by decide : 0 < 256)) (beL_lt _ _)) (strB_lt s)
  have hm2 : ys1 ++ beL 4 N = encH (strB s) N := by rw [← hy1]; unfold encH; simp
  have cp2 := fun (x : Gro) (L' : List (Nat × Obj)) (w' : World) (hx : GroOk x ys1) (hR : Rep B0 w0 (x.bl ++ L') w') => ref_put _ ys1 4 N (by decide) (by omega) (by omega) (gro_at hx b1) hR
  rw [hm2] at cp2
  obtain ⟨m2, hm⟩ : ∃ m, encH (strB s) N = m := ⟨_, rfl⟩
  rw [hm] at cp2 hle enc
  simp only [hm] at hencb
  rw [enc]
  replace hN := Held.mk hN
  replace h4 := Held.mk h4
  replace h5 := Held.mk h5
  replace hpart := Held.mk hpart
  replace hencb := Held.mk hencb
  clear hy1 l1 hm2 hm enc b1
  go_enter Tryz.func98, Tryz.ntmps98
  go_wp2_with (first | (refine' xAb hR rfl rfl rfl ?_; clear hR; intro blk w hR) | (refine' xAa hR rfl rfl inferInstance ?_; clear hR; intro blk w hR) | (refine' aFq hR rfl rfl rfl inferInstance ?_) | (refine' aGq hR rfl rfl rfl inferInstance ?_) | (refine' aHq hR rfl rfl rfl inferInstance ?_) | (refine' aDq hR rfl rfl rfl inferInstance rfl ?_; clear hR; intro w hR) | (refine' aEq hR rfl rfl rfl inferInstance rfl rfl ?_; clear hR; intro w hR) | (refine' wpList_strBytes hR rfl rfl rfl (by omega) ?_; clear hR; intro cb cap0 arr fz w hS hR; replace hS := Held.mk hS) | (go_at_call 111; refine (cp1 _ _ _ (hS.out _ (.head _)) hR).mono ?_; clear hR hS cp1; rintro e w ⟨og, hx, rfl, hR⟩; replace hx := Held.mk hx; replace hR := hR.weaken (List.Sublist.append_left (List.sublist_cons_self _ _) _)) | (go_at_call 74; refine (cp2 _ _ _ hx.out hR).mono ?_; clear hR cp2 hx; rintro e w ⟨og, hx, rfl, hR⟩; replace hx := Held.mk hx; replace hR := hR.weaken (List.Sublist.append_left (List.sublist_append_right _ _) _)))
  refine' xCc (false :: false :: false :: false :: false :: false :: false :: false :: false :: false :: false :: false :: false :: false :: false :: true :: true :: true :: true :: true :: true :: true :: true :: true :: true :: true :: true :: false :: []) (fun (x : Gro × Nat) l => (l.set 5 (.slice x.1.a (m2 ++ encR xss x.2).length x.1.cap)).set 6 (.int .i64 (x.2 : Int))) (fun x => x.1.bl ++ L) (fun x => N - x.2) (fun x => x.2 ≤ N ∧ GroOk x.1 (m2 ++ encR xss x.2)) (og, 0) ?h0 ?hO ?hR ?hs
  case h0 =>
    simp only [encR_zero, List.append_nil]
    exact xAu rfl rfl rfl
  case hO => exact ⟨Nat.zero_le _, by show GroOk og (m2 ++ encR xss 0); rw [encR_zero, List.append_nil]; exact hx.out⟩
  case hR => exact hR
  case hs =>
    clear hR hx
    intro os tm w hO ht hR K hK
    obtain ⟨og, i⟩ := os
    obtain ⟨hi, hx⟩ := hO
    simp only at hi hx ht hR
    have g0 : 0 ≤ (i : Int) := by omega
    have hli := ele i hi
    by_cases hiN : i = N
    · have hiN' := hiN.symm
      clear hiN
      subst hiN'
      clear hK
      have t1 : ¬ (N : Int) < (N : Int) := by omega
      generalize hmm : m2 ++ encR xss N = m at *
      replace hmm := Held.mk hmm
      clear ele hli hi
      replace hx := Held.mk hx
      repeat (first | (obtain ⟨x, tm', e, ht'⟩ := xAf ht; clear ht; subst e; have ht := ht'; clear ht') | (obtain ⟨tm', e, ht'⟩ := xAc ht; clear ht; subst e; have ht := ht'; clear ht'))
      obtain rfl := xAk ht
      clear ht
      go_wp2_with (first | (refine' xAb hR rfl rfl rfl ?_; clear hR; intro blk w hR) | (refine' xAa hR rfl rfl inferInstance ?_; clear hR; intro blk w hR) | (refine' aFq hR rfl rfl rfl inferInstance ?_) | (refine' aGq hR rfl rfl rfl inferInstance ?_) | (refine' aHq hR rfl rfl rfl inferInstance ?_) | (refine' aDq hR rfl rfl rfl inferInstance rfl ?_; clear hR; intro w hR) | (refine' aEq hR rfl rfl rfl inferInstance rfl rfl ?_; clear hR; intro w hR) | fail)
      go_ret
      exact ⟨og, by rw [hmm.out]; exact hx.out, by rw [hmm.out]; rfl, hR⟩
    · have g1 : (i : Int) < (N : Int) := by omega
      obtain ⟨hS, hlen⟩ := h4.out i (by omega)
      have hx0 : xss ≠ [] := fun h => by
        have := hN.out
        rw [h] at this
        have : N = 0 := this.symm
        omega
      obtain ⟨bb, off, rfl, h6⟩ := h5.out hx0
      have hld := cell_load (ty := 49) (h6 w (hR.weaken (List.sublist_append_right _ _)) i (by omega))
      have hbi := hpart.out i (by omega)
      have hbt := fun j => hencb.out i j hi
      have es := encR_succ xss (i := i) (by have := hN.out; omega)
      generalize V i = vi at *
      generalize hxs : xss.getD i [] = xs at *
      have hlm : (m2 ++ encR xss i).length ≤ 1300000 := by rw [List.length_append]; omega
      have ei : IntKind.i64.wrap ((i : Int) + 1) = ((i + 1 : Nat) : Int) := by rw [IntKind.wrap_i64]; omega
      have em : m2 ++ encR xss (i + 1) = (m2 ++ encR xss i) ++ beL 4 xs.length ++ xs := by rw [es]; simp
      generalize m2 ++ encR xss i = m at *
      have cb := fun (w' : World) (hR : Rep B0 w0 (og.bl ++ L) w') => ref_bytes _ vi m xs (by omega) (gro_at hx hbt) (hS.mono fun w hw => hw.weaken (List.sublist_append_right _ _)) hR
      rw [← em] at cb
      generalize hm3 : m2 ++ encR xss (i + 1) = m3 at *
      replace hm3 := Held.mk hm3
      have hi1 : i + 1 ≤ N := by omega
      have hmu : N - (i + 1) < N - i := by omega
      replace hi1 := Held.mk hi1
      replace hmu := Held.mk hmu
      clear h6 hS hlm es ele hli hi hxs hx em hbt
      repeat (first | (obtain ⟨x, tm', e, ht'⟩ := xAf ht; clear ht; subst e; have ht := ht'; clear ht') | (obtain ⟨tm', e, ht'⟩ := xAc ht; clear ht; subst e; have ht := ht'; clear ht'))
      obtain rfl := xAk ht
      clear ht
      go_wp2_with (first | (refine' xAb hR rfl rfl rfl ?_; clear hR; intro blk w hR) | (refine' xAa hR rfl rfl inferInstance ?_; clear hR; intro blk w hR) | (refine' aFq hR rfl rfl rfl inferInstance ?_) | (refine' aGq hR rfl rfl rfl inferInstance ?_) | (refine' aHq hR rfl rfl rfl inferInstance ?_) | (refine' aDq hR rfl rfl rfl inferInstance rfl ?_; clear hR; intro w hR) | (refine' aEq hR rfl rfl rfl inferInstance rfl rfl ?_; clear hR; intro w hR) | (refine' xCg rfl rfl rfl hld ?_) | (go_at_call 111; refine (cb _ hR).mono ?_; clear hR cb; rintro e w ⟨oh, hx, rfl, hR⟩; replace hx := Held.mk hx; replace hR := hR.weaken (List.Sublist.append_left (List.sublist_append_right _ _) _)))
      refine hK.out (oh, i + 1) _ _ ⟨hi1.out, ?_⟩ hmu.out ?_ hR
      · show GroOk oh (m2 ++ encR xss (i + 1))
        rw [hm3.out]; exact hx.out
      · simp only [hm3.out]
        exact xAu rfl rfl rfl
set_option maxRecDepth 100000 in
set_option maxHeartbeats 4000000 in
theorem ref6_of (s : ByteArray) (v : Value) (xss : List (List Nat)) (hs : s.size ≤ 100000) (h200 : xss.length ≤ 1000) (htot : totL xss xss.length ≤ 1000000) (hv : RowsOf B0 w0 L v xss) (hR : Rep B0 w0 L w) :
    Calls Tryz.prog 71 #[.string s, v] w fun e w' => e = .returned (.agg (u8s 32 (hashF (encB (strB s) xss))).toArray) ∧ Rep B0 w0 L w' := by
  have hlen : (encB (strB s) xss).length < 2000000 := by
    unfold encB encH
    rw [List.length_append, List.length_append, List.length_append, xBr, xBr, xCo, encR_tot xss _ (Nat.le_refl _)]
    omega
  have hb : ∀ j, (encB (strB s) xss).getD j 0 < 256 := by
    obtain ⟨a, cp, V, _, h1, h2, h4, h5⟩ := hv
    unfold encB encH
    refine xBz (xBz (xBz (beL_lt _ _) (strB_lt s)) (beL_lt _ _)) ?_
    have : ∀ i, i ≤ xss.length → ∀ j, (encR xss i).getD j 0 < 256 := fun i => by
      induction i with
      | zero => intro _ j; rw [encR_zero]; exact (by decide : 0 < 256)
      | succ i ih =>
        intro h j
        rw [encR_succ xss (by omega)]
        refine xBz (xBz (ih (by omega)) (beL_lt _ _)) ?_ j
        obtain ⟨⟨_, _, _, _, _, hb, _⟩, _⟩ := h4 i (by omega)
        exact hb
    exact this _ (Nat.le_refl _)
  have cb := fun (hb' : Nat) (z : List Value) (t : TypeId) (w : World) (hR : Rep B0 w0 ((hb', .cells z.toArray t) :: L) w) => ref6_bytes s v xss hs h200 htot (hv.mono fun w hw => hw.drop1) hR
  generalize encB (strB s) xss = m at *
  have cr := fun (x : Gro) (L' : List (Nat × Obj)) (w : World) (hx : GroOk x m) (hR : Rep B0 w0 (x.bl ++ L') w) => ref_of _ m hlen (gro_at hx hb) hR
  have hone := u8s_one 32 (hashF m)
  generalize hashF m = out at *
  clear hlen hb hv
  obtain ⟨a, rfl⟩ : ∃ a, a = v := ⟨_, rfl⟩
  go_enter Tryz.func71, Tryz.ntmps71
  go_wp2_with (first | (refine' xAb hR rfl rfl rfl ?_; clear hR; intro blk w hR) | (refine' xAa hR rfl rfl inferInstance ?_; clear hR; intro blk w hR) | (refine' aFq hR rfl rfl rfl inferInstance ?_) | (refine' aGq hR rfl rfl rfl inferInstance ?_) | (refine' aHq hR rfl rfl rfl inferInstance ?_) | (refine' aDq hR rfl rfl rfl inferInstance rfl ?_; clear hR; intro w hR) | (refine' aEq hR rfl rfl rfl inferInstance rfl rfl ?_; clear hR; intro w hR) | (go_at_call 98; refine (cb _ _ _ _ hR).mono ?_; clear hR cb; rintro e w ⟨x, hx, rfl, hR⟩; replace hx := Held.mk hx) | (go_at_call 97; refine (cr _ _ _ hx.out hR).mono ?_; clear hR cr hx; rintro e w ⟨rfl, hR⟩; replace hR := hR.weaken (List.sublist_append_right _ _)))
  (refine' bodyPost_ret (xBq Tryz.results71 rfl (hR.loadAll (P := Tryz.prog) (ty := 28) ?hm ?hn)) rfl ⟨rfl, hR.drop1⟩; (case hm => exact .head _); (case hn => simp))
end
end Go.Proofs.YtgfoeongjhkdmaaGreat
namespace Go.Proofs.YtgfoeongjhkdmaaGreat
open Go.RowKit
attribute [local irreducible] Calls
section
variable {B0 : Nat} {w0 w : World} {L : List (Nat × Obj)}
set_option maxRecDepth 100000 in
set_option maxHeartbeats 4000000 in
theorem rget_8 (v : Value) (xs : List Nat) (h8 : 8 ≤ xs.length) (hv : xBo B0 w0 [] v xs) (hR : Rep B0 w0 L w) :
    Calls Tryz.prog 99 #[v, .int .i64 8] w fun e w' => e = .returned (.tuple #[.int .u64 (geN xs 8 : Nat), .int .i64 0]) ∧ Rep B0 w0 L w' := by
  obtain ⟨a, cp, rfl, h1, h2, h3, h4⟩ := hv
  obtain ⟨N, hN⟩ : ∃ N, xs.length = N := ⟨_, rfl⟩
  rw [hN] at h1 h8 ⊢
  have hne : xs ≠ [] := fun h => by rw [h] at hN; have : 0 = N := hN; omega
  have g1 : ¬ (N : Int) < 8 := by omega
  have g1' : decide ((N : Int) < 8) = false := decide_eq_false g1
  obtain ⟨n8, hn8⟩ : ∃ n, geN xs 8 = n := ⟨_, rfl⟩
  rw [hn8]
  obtain ⟨bb, off, rfl, k5⟩ := h4 hne
  rw [hN] at k5
  have hlt := geN_lt xs h3
  replace hN := Held.mk hN
  replace hn8 := Held.mk hn8
  clear hne h4
  go_enter Tryz.func99, Tryz.ntmps99
  go_wp2_with (first | (refine' xAb hR rfl rfl rfl ?_; clear hR; intro blk w hR) | (refine' xAa hR rfl rfl inferInstance ?_; clear hR; intro blk w hR) | (refine' aFq hR rfl rfl rfl inferInstance ?_) | (refine' aGq hR rfl rfl rfl inferInstance ?_) | (refine' aHq hR rfl rfl rfl inferInstance ?_) | (refine' aDq hR rfl rfl rfl inferInstance rfl ?_; clear hR; intro w hR) | (refine' aEq hR rfl rfl rfl inferInstance rfl rfl ?_; clear hR; intro w hR) | (refine' xAy hR rfl rfl rfl inferInstance ?hm ?hn ?_; (case hm => first | with_reducible assumption | repeat (first | exact .head _ | with_reducible assumption | apply mC)); (case hn => first | rfl | simp)) | (refine' xAt hR rfl rfl rfl inferInstance ?hm ?hv ?_; (case hm => first | with_reducible assumption | repeat (first | exact .head _ | with_reducible assumption | apply mC)); (case hv => first | rfl | with_reducible assumption)) | fail)
  refine' xCc (false :: false :: false :: false :: false :: false :: false :: false :: false :: false :: false :: false :: false :: false :: false :: false :: false :: false :: true :: true :: true :: true :: true :: true :: true :: true :: true :: true :: true :: true :: true :: false :: []) (fun (i : Nat) l => (l.set 6 (.int .u64 ((geN xs i : Nat) : Int))).set 7 (.int .i64 (i : Int))) (fun _ => L) (fun i => 8 - i) (fun i => i ≤ 8) 0 ?h0 ?hO ?hR ?hs
  case h0 =>
    simp only [geN_zero]
    exact xAu rfl rfl rfl
  case hO => exact Nat.zero_le _
  case hR => exact hR
  case hs =>
    clear hR
    intro i tm w hi ht hR K hK
    have g0 : 0 ≤ (i : Int) := by omega
    by_cases hi8 : i = 8
    · subst hi8
      clear hK
      have e8 : ((8 : Nat) : Int) = 8 := rfl
      rw [e8, hn8.out] at ht
      clear e8
      repeat (first | (obtain ⟨x, tm', e, ht'⟩ := xAf ht; clear ht; subst e; have ht := ht'; clear ht') | (obtain ⟨tm', e, ht'⟩ := xAc ht; clear ht; subst e; have ht := ht'; clear ht'))
      obtain rfl := xAk ht
      clear ht
      go_wp2_with (first | (refine' xAb hR rfl rfl rfl ?_; clear hR; intro blk w hR) | (refine' xAa hR rfl rfl inferInstance ?_; clear hR; intro blk w hR) | (refine' aFq hR rfl rfl rfl inferInstance ?_) | (refine' aGq hR rfl rfl rfl inferInstance ?_) | (refine' aHq hR rfl rfl rfl inferInstance ?_) | (refine' aDq hR rfl rfl rfl inferInstance rfl ?_; clear hR; intro w hR) | (refine' aEq hR rfl rfl rfl inferInstance rfl rfl ?_; clear hR; intro w hR) | fail)
      go_ret2
      exact ⟨rfl, hR⟩
    · have g2 : (i : Int) < 8 := by omega
      have gN : (i : Int) < (N : Int) := by omega
      have hld := cell_load (ty := 5) (k5 w hR.bare i (by omega))
      have es := geN_succ xs i
      have hb := h3 i
      have hl := hlt i
      generalize xs.getD i 0 = c at *
      have hl2 : geN xs i * 256 ≤ 18446744073709551616 - 256 := by
        have : 256 ^ i ≤ 256 ^ 7 := Nat.pow_le_pow_right (by decide) (by omega)
        have : (256 : Nat) ^ 7 = 72057594037927936 := by decide
        omega
      generalize hn2 : geN xs (i + 1) = n2 at *
      generalize geN xs i = n1 at *
      obtain ⟨m1, hm1⟩ : ∃ m, n1 * 256 = m := ⟨_, rfl⟩
      have eo : IntKind.u64.wrap ((n1 : Int) * 256) = (m1 : Int) := by rw [IntKind.wrap_u64]; omega
      have eo2 : IntKind.u64.wrap ((m1 : Int) + (c : Int)) = (n2 : Int) := by rw [IntKind.wrap_u64]; omega
      have eo3 : IntKind.u64.wrap (c : Int) = (c : Int) := by rw [IntKind.wrap_u64]; omega
      replace hn2 := Held.mk hn2
      replace es := Held.mk es
      replace hm1 := Held.mk hm1
      have ei : IntKind.i64.wrap ((i : Int) + 1) = ((i + 1 : Nat) : Int) := by rw [IntKind.wrap_i64]; omega
      repeat (first | (obtain ⟨x, tm', e, ht'⟩ := xAf ht; clear ht; subst e; have ht := ht'; clear ht') | (obtain ⟨tm', e, ht'⟩ := xAc ht; clear ht; subst e; have ht := ht'; clear ht'))
      obtain rfl := xAk ht
      clear ht
      go_wp2_with (first | (refine' xAb hR rfl rfl rfl ?_; clear hR; intro blk w hR) | (refine' xAa hR rfl rfl inferInstance ?_; clear hR; intro blk w hR) | (refine' aFq hR rfl rfl rfl inferInstance ?_) | (refine' aGq hR rfl rfl rfl inferInstance ?_) | (refine' aHq hR rfl rfl rfl inferInstance ?_) | (refine' aDq hR rfl rfl rfl inferInstance rfl ?_; clear hR; intro w hR) | (refine' aEq hR rfl rfl rfl inferInstance rfl rfl ?_; clear hR; intro w hR) | (refine' xCg rfl rfl rfl hld ?_))
      exact hK.out (i + 1) _ _ (by omega) (by omega) (by simp only [hn2.out]; exact xAu rfl rfl rfl) hR
set_option maxRecDepth 100000 in
set_option maxHeartbeats 4000000 in
theorem rget_long (v : Value) (xs : List Nat) (h32 : xs.length = 32) (hv : xBo w.heap.size w [] v xs) :
    Calls Tryz.prog 72 #[v] w fun e w' => e = .returned (.tuple #[num (longN xs), .int .i64 0]) ∧ Below w.heap.size w w' := by
  have hR := Rep.init w
  have hb : ∀ j, xs.getD j 0 < 256 := by obtain ⟨_, _, _, _, _, h, _⟩ := hv; exact h
  obtain ⟨v0, hc0, hv0⟩ := cut_high hv (k := 0) (by omega)
  obtain ⟨v1, hc1, hv1⟩ := cut_high hv (k := 8) (by omega)
  obtain ⟨v2, hc2, hv2⟩ := cut_high hv (k := 16) (by omega)
  obtain ⟨v3, hc3, hv3⟩ := cut_high hv (k := 24) (by omega)
  have e0 : ((0 : Nat) : Int) = 0 := rfl
  have e8 : ((8 : Nat) : Int) = 8 := rfl
  have e16 : ((16 : Nat) : Int) = 16 := rfl
  have e24 : ((24 : Nat) : Int) = 24 := rfl
  rw [e0] at hc0
  rw [e8] at hc1
  rw [e16] at hc2
  rw [e24] at hc3
  rw [List.drop_zero] at hv0
  have c0 := fun (L : List (Nat × Obj)) (w' : World) (hR : Rep w.heap.size w L w') => rget_8 v0 xs (by omega) hv0 hR
  have c1 := fun (L : List (Nat × Obj)) (w' : World) (hR : Rep w.heap.size w L w') => rget_8 v1 (xs.drop 8) (by simp; omega) hv1 hR
  have c2 := fun (L : List (Nat × Obj)) (w' : World) (hR : Rep w.heap.size w L w') => rget_8 v2 (xs.drop 16) (by simp; omega) hv2 hR
  have c3 := fun (L : List (Nat × Obj)) (w' : World) (hR : Rep w.heap.size w L w') => rget_8 v3 (xs.drop 24) (by simp; omega) hv3 hR
  have hnl := longN_nl xs hb
  generalize geN (xs.drop 24) 8 = n3 at *
  generalize geN (xs.drop 16) 8 = n2 at *
  generalize geN (xs.drop 8) 8 = n1 at *
  generalize geN xs 8 = n0 at *
  generalize longN xs = ln at *
  obtain ⟨a, cp, rfl, _⟩ := hv
  rw [h32] at hc0 hc1 hc2 hc3 ⊢
  replace hnl := Held.mk hnl
  clear hv0 hv1 hv2 hv3 e0 e8 e16 e24 hb
  go_enter Tryz.func72, Tryz.ntmps72
  go_wp2_with (first | (refine' xAb hR rfl rfl rfl ?_; clear hR; intro blk w hR) | (refine' xAa hR rfl rfl inferInstance ?_; clear hR; intro blk w hR) | (refine' aFq hR rfl rfl rfl inferInstance ?_) | (refine' aGq hR rfl rfl rfl inferInstance ?_) | (refine' aHq hR rfl rfl rfl inferInstance ?_) | (refine' aDq hR rfl rfl rfl inferInstance rfl ?_; clear hR; intro w hR) | (refine' aEq hR rfl rfl rfl inferInstance rfl rfl ?_; clear hR; intro w hR) | fail)
  refine wp_loop_rounds 5 ?_
  rw [rounds_succ]
  go_wp2_with (first | (refine' xAb hR rfl rfl rfl ?_; clear hR; intro blk w hR) | (refine' xAa hR rfl rfl inferInstance ?_; clear hR; intro blk w hR) | (refine' aFq hR rfl rfl rfl inferInstance ?_) | (refine' aGq hR rfl rfl rfl inferInstance ?_) | (refine' aHq hR rfl rfl rfl inferInstance ?_) | (refine' aDq hR rfl rfl rfl inferInstance rfl ?_; clear hR; intro w hR) | (refine' aEq hR rfl rfl rfl inferInstance rfl rfl ?_; clear hR; intro w hR) | (go_at_call 99; refine (c0 _ _ hR).mono ?_; clear hR; rintro e w ⟨rfl, hR⟩))
  rw [rounds_succ]
  go_wp2_with (first | (refine' xAb hR rfl rfl rfl ?_; clear hR; intro blk w hR) | (refine' xAa hR rfl rfl inferInstance ?_; clear hR; intro blk w hR) | (refine' aFq hR rfl rfl rfl inferInstance ?_) | (refine' aGq hR rfl rfl rfl inferInstance ?_) | (refine' aHq hR rfl rfl rfl inferInstance ?_) | (refine' aDq hR rfl rfl rfl inferInstance rfl ?_; clear hR; intro w hR) | (refine' aEq hR rfl rfl rfl inferInstance rfl rfl ?_; clear hR; intro w hR) | (go_at_call 99; refine (c1 _ _ hR).mono ?_; clear hR; rintro e w ⟨rfl, hR⟩))
  rw [rounds_succ]
  go_wp2_with (first | (refine' xAb hR rfl rfl rfl ?_; clear hR; intro blk w hR) | (refine' xAa hR rfl rfl inferInstance ?_; clear hR; intro blk w hR) | (refine' aFq hR rfl rfl rfl inferInstance ?_) | (refine' aGq hR rfl rfl rfl inferInstance ?_) | (refine' aHq hR rfl rfl rfl inferInstance ?_) | (refine' aDq hR rfl rfl rfl inferInstance rfl ?_; clear hR; intro w hR) | (refine' aEq hR rfl rfl rfl inferInstance rfl rfl ?_; clear hR; intro w hR) | (go_at_call 99; refine (c2 _ _ hR).mono ?_; clear hR; rintro e w ⟨rfl, hR⟩))
  rw [rounds_succ]
  go_wp2_with (first | (refine' xAb hR rfl rfl rfl ?_; clear hR; intro blk w hR) | (refine' xAa hR rfl rfl inferInstance ?_; clear hR; intro blk w hR) | (refine' aFq hR rfl rfl rfl inferInstance ?_) | (refine' aGq hR rfl rfl rfl inferInstance ?_) | (refine' aHq hR rfl rfl rfl inferInstance ?_) | (refine' aDq hR rfl rfl rfl inferInstance rfl ?_; clear hR; intro w hR) | (refine' aEq hR rfl rfl rfl inferInstance rfl rfl ?_; clear hR; intro w hR) | (go_at_call 99; refine (c3 _ _ hR).mono ?_; clear hR; rintro e w ⟨rfl, hR⟩))
  rw [rounds_succ]
  go_wp2_with (first | (refine' xAb hR rfl rfl rfl ?_; clear hR; intro blk w hR) | (refine' xAa hR rfl rfl inferInstance ?_; clear hR; intro blk w hR) | (refine' aFq hR rfl rfl rfl inferInstance ?_) | (refine' aGq hR rfl rfl rfl inferInstance ?_) | (refine' aHq hR rfl rfl rfl inferInstance ?_) | (refine' aDq hR rfl rfl rfl inferInstance rfl ?_; clear hR; intro w hR) | (refine' aEq hR rfl rfl rfl inferInstance rfl rfl ?_; clear hR; intro w hR) | fail)
  (refine' bodyPost_ret (xAz Tryz.results72 rfl (hR.loadAll (P := Tryz.prog) (ty := 24) ?hm ?hn)) rfl ⟨?_, hR.below⟩; (case hm => first | with_reducible assumption | repeat (first | exact .head _ | with_reducible assumption | apply mC)); (case hn => first | rfl | simp))
  rw [← hnl.out]
  rfl
end
end Go.Proofs.YtgfoeongjhkdmaaGreat
