/- divides.Wide by one word. -/
import Derived.Deep.RegionWith
import Derived.Test.YtdmdkdodfngjiaaWide
import Derived.Test.YtdmdkdodfngjiaaConcat
import Derived.Test.YtdmdkdodfngjiaaBack
set_option linter.unusedSimpArgs false
set_option linter.unusedVariables false
namespace Go.Proofs.Ytdmdkdodfngjiaa
open Go.RowKit
attribute [local go_sem] Oper.semAt_some

theorem region_slice {P : Program} {c : Code} {Q : Exit → Act → World → Prop} {l : List Value} {d : List Deferred} {w w0 : World} {B0 : Nat} {L : List (Nat × Obj)} (hR : Rep B0 w0 L w) (mask : List Bool) (t : TypeId) (ys : List Value)
    (h1 : ∀ Q' : Act → World → Prop, Held (∀ g cap cur tm w', agree mask (l.set 8 (.slice (some ⟨g, 0, none⟩) 8 cap)) tm → Rep B0 w0 ((g, .cells cur t) :: L) w' → cur.toList.take 8 = ys → Q' ⟨tm.toArray, d⟩ w') → c.wp P (Exit.then Q' fun _ _ _ => False) ⟨l.toArray, d⟩ w)
    (h2 : ∀ g cap cur tm w', agree mask (l.set 8 (.slice (some ⟨g, 0, none⟩) 8 cap)) tm → Rep B0 w0 ((g, .cells cur t) :: L) w' → cur.toList.take 8 = ys → Q .normal ⟨tm.toArray, d⟩ w') : c.wp P Q ⟨l.toArray, d⟩ w := by
  refine Code.wp_mono (fun e a w' h => ?_) (h1 (fun a w' => Q .normal a w') ⟨h2⟩)
  cases e <;> first | exact h | exact h.elim

theorem KeepsOthers.below {W W' : World} (h : Below W.heap.size W W') : KeepsOthers W W' :=
  ⟨h.size, fun k o hk _ => by rw [h.block k (Array.getElem?_eq_some_iff.1 hk).1]; exact hk⟩
/-- The rest of a long number behind some words of it. -/
noncomputable def rstep : Nat → Nat → Nat → Nat := opq fun m r x => (r * 18446744073709551616 + x) % m
theorem rstep_def (m r x : Nat) : rstep m r x = (r * 18446744073709551616 + x) % m := by unfold rstep; rw [opq_eq]
noncomputable def rr (m : Nat) (pre : List (Int × Word)) : Nat := pre.foldl (fun r x => rstep m r x.2.1) 0
theorem rr_snoc (m : Nat) (pre : List (Int × Word)) (x : Int × Word) : rr m (pre ++ [x]) = rstep m (rr m pre) x.2.1 := by
  unfold rr
  rw [List.foldl_append, List.foldl_cons, List.foldl_nil]
theorem rr_lt {m : Nat} (hm : 0 < m) : ∀ pre : List (Int × Word), rr m pre < m := fun pre => by
  rcases List.eq_nil_or_concat pre with rfl | ⟨p, x, rfl⟩
  · exact hm
  · rw [List.concat_eq_append, rr_snoc, rstep_def]; exact Nat.mod_lt _ hm
theorem Rep.ownFrom {B0 : Nat} {w0 : World} {L : List (Int × Word) → List (Nat × Obj)} {C : Nat} (hC : B0 ≤ C) (hL : ∀ pre p, p ∈ L pre → p.2.isCells = true) : OwnFrom C (fun pre W => Rep B0 w0 (L pre) W) := fun pre W W' row h hg hr =>
  h.grown hg fun r e => ⟨by have := (hr r e).1; omega, fun p hp ep => by
    obtain ⟨_, o, ho, hf⟩ := hr r e
    have h1 := (h.own p hp).2
    have h2 := hL pre p hp
    rw [ep, ho] at h1
    cases h1
    rw [hf] at h2
    cases h2⟩

theorem Rep.putHead {B0 : Nat} {w0 : World} {p : Nat × Obj} {L : List (Nat × Obj)} {w : World} (h : Rep B0 w0 (p :: L) w) (o : Obj) : Rep B0 w0 L (w.putObj p.1 o) :=
  h.tail.grown (grownBy_putObj' w p.1 o) fun r e => by
    cases e
    exact ⟨(h.own p (.head _)).1, fun q hq e => (List.nodup_cons.1 h.uniq).1 (List.mem_map.2 ⟨q, hq, e⟩)⟩

theorem rstep_mod (m v x : Nat) : rstep m (v % m) x = (v * 18446744073709551616 + x) % m := by
  rw [rstep_def, Nat.add_mod, Nat.mul_mod, Nat.mod_mod, ← Nat.mul_mod, ← Nat.add_mod]
theorem horner8 (W l0 l1 l2 l3 h0 h1 h2 h3 : Nat) : (((((((0 * W + h3) * W + h2) * W + h1) * W + h0) * W + l3) * W + l2) * W + l1) * W + l0 =
    (h0 + W * (h1 + W * (h2 + W * h3))) * (W * W * W * W) + (l0 + W * (l1 + W * (l2 + W * l3))) := by grind
/-- The words of two numbers. -/
def wz (low high j : Nat) : Word := if j < 4 then ⟨w64 low j, w64_lt _ _⟩ else ⟨w64 high (j - 4), w64_lt _ _⟩
theorem words_ex (low high m : Nat) (hl : low < B) (hh : high < B) (h0 : m ≠ 0) (cur : Array Value) (hcur : cur.toList.take 8 = nl low ++ nl high) :
    ∃ zs : Nat → Word, (∀ j, j < 8 → cur[j]? = some (.int .u64 ((zs j).1 : Int))) ∧ rr m (dn 8 zs 0) = widN low high m := by
  refine ⟨wz low high, fun j hj => ?_, ?_⟩
  · have e : cur[j]? = (nl low ++ nl high)[j]? := by
      rw [← hcur, List.getElem?_take, if_pos hj, Array.getElem?_toList]
    rw [e]
    unfold nl
    simp only [wd_eq]
    have : j = 0 ∨ j = 1 ∨ j = 2 ∨ j = 3 ∨ j = 4 ∨ j = 5 ∨ j = 6 ∨ j = 7 := by omega
    rcases this with rfl | rfl | rfl | rfl | rfl | rfl | rfl | rfl <;> rfl
  · have ed : dn 8 (wz low high) 0 = [(7, wz low high 7), (6, wz low high 6), (5, wz low high 5), (4, wz low high 4), (3, wz low high 3), (2, wz low high 2), (1, wz low high 1), (0, wz low high 0)] := rfl
    rw [ed]
    unfold rr
    simp only [List.foldl_cons, List.foldl_nil]
    have z : ∀ j, j < 4 → (wz low high j).1 = w64 low j := fun j hj => by unfold wz; rw [if_pos hj]
    have z' : ∀ j, j < 4 → (wz low high (j + 4)).1 = w64 high j := fun j hj => by unfold wz; rw [if_neg (by omega)]; rfl
    rw [z 0 (by decide), z 1 (by decide), z 2 (by decide), z 3 (by decide), z' 0 (by decide), z' 1 (by decide), z' 2 (by decide), z' 3 (by decide)]
    rw [rstep_def m 0, rstep_mod, rstep_mod, rstep_mod, rstep_mod, rstep_mod, rstep_mod, rstep_mod, horner8, ← B_eq]
    have eh := ofW_w64 high
    have el := ofW_w64 low
    rw [Nat.mod_eq_of_lt hh] at eh
    rw [Nat.mod_eq_of_lt hl] at el
    unfold ofW at eh el
    rw [eh, el, widN_def, if_neg h0]

/-- The loop over the words. -/
theorem range_words {Q : Exit → Act → World → Prop} {B0 : Nat} {w0 : World} {l : List Value} {w : World} {ac bc : Code} (zs : Nat → Word) (Bs b cap : Nat) (L : List (Int × Word) → List (Nat × Obj))
    (hg : (Act.mk l.toArray []).eval (.tmp 27) = .func (.func 127) #[] #[.pointer (some ⟨Bs, 0, none⟩)])
    (hR : Rep B0 w0 (L []) w) (hL : ∀ pre p, p ∈ L pre → p.2.isCells = true) (mB : (Bs, Obj.cells (List.toArray [Value.slice (some ⟨b, 0, none⟩) 8 cap]) 81) ∈ L []) (mb : ∃ cur t, (b, Obj.cells cur t) ∈ L [] ∧ ∀ j, j < 8 → cur[j]? = some (.int .u64 ((zs j).1 : Int)))
    (hassign : ∀ (k : Nat) (x : Int × Word) (W : World) (K : Act → World → Prop), K ⟨(((l.set 28 (.int .i64 x.1)).set 29 (.int .u64 (x.2.1 : Int))).set 10 (.int .u64 (x.2.1 : Int))).toArray, []⟩ W →
      ac.wpIn (Fence.wide.inRound k) 3 Try.prog (Exit.then K (fun _ _ _ => False)) { tmps := ((#[28, 29] : Array Tmp).zip (#[Value.int .i64 x.1, Value.int .u64 (x.2.1 : Int)])).foldl (fun t (p, v) => t.setIfInBounds p v) l.toArray, defers := [] } W)
    (hbody : ∀ (k : Nat) (pre : List (Int × Word)) (x : Int × Word) (W : World), Rep B0 w0 (L pre) W → pre.length < 8 →
      bc.wpIn (Fence.wide.inRound k) 3 Try.prog (ownPostK (keep2 b Bs) (fun pre W => Rep B0 w0 (L pre) W) (fun _ _ _ => False) (pre ++ [x]) W) ⟨(((l.set 28 (.int .i64 x.1)).set 29 (.int .u64 (x.2.1 : Int))).set 10 (.int .u64 (x.2.1 : Int))).toArray, []⟩ W)
    (hdone : ∀ (D : Nat) (W : World), Rep B0 w0 ((D, .deferred (some [])) :: L (dn 8 zs 0)) W → Q .normal ⟨l.toArray, [{ target := .collected D, args := #[] }]⟩ W) :
    (Code.rangeFunc (.tmp 27) #[28, 29] ac bc).wp Try.prog Q ⟨l.toArray, []⟩ w := by
  refine (wpIn_wide (n := 5)).1 ?_
  have lB := hR.lt mB
  obtain ⟨cur, t, mb, hcur⟩ := mb
  have lb := hR.lt mb
  refine wpIn_rangeFunc_ownF rfl (by decide) (gf := 127) (lb := #[.pointer (some ⟨Bs, 0, none⟩)]) hg trivial (fun args w => enters Try.func127 (by kernel_rfl) (by kernel_rfl) args w)
    (back_stops Fence.wide 4 trivial rfl (by decide) Bs b 8 cap zs (by decide) w lb lB (hR.cell (off := 0) mB rfl) (fun j hj => hR.cell (l := cur.toList) (off := j) (by simpa using mb) (by simpa using hcur j hj)))
    keep2_t (keep2_b lb lB) (Below.refl _ _) (fun _ => rfl) (fun pre W => Rep B0 w0 (L pre) W) (fun _ _ _ => False) (Rep.ownFrom hR.le hL) (fun _ _ _ _ _ h _ _ => h) hR _ hassign hbody ?done ?stop
  case done =>
    rintro D ys W hD rfl hW hK
    exact hdone D W (hW.add (by have := hR.le; omega) hK (fun p hp e => by
      have h1 := (hW.own p hp).2
      have h2 := hL _ p hp
      rw [e, hK] at h1
      rw [← Option.some.inj h1] at h2
      cases h2))
  case stop =>
    rintro D c pre W _ _ h
    exact h.elim

set_option maxRecDepth 100000 in
set_option maxHeartbeats 1000000 in
theorem wide_short (low high m : Nat) (hl : low < B) (hh : high < B) (h0 : m ≠ 0) (hs : m < 18446744073709551616) (w : World) : Calls Try.prog 19 #[num low, num high, num m] w fun e w' =>
    e = .returned (.tuple #[num (widN low high m), .int .i64 0]) ∧ Below w.heap.size w w' := by
  have hm : m < B := lt_B hs
  have z := eqN_no hm B_pos h0
  have hR := Rep.init w
  have ox : ∀ a : Nat, ∀ u ∈ nl a, u.oneCell' = true := fun a u hu => by
    unfold nl at hu
    simp only [List.mem_cons, List.not_mem_nil, or_false] at hu
    rcases hu with rfl | rfl | rfl | rfl <;> rfl
  refine (callsIn_wide (n := 5)).1 ?_
  refine callsIn_of_wp_marks Try.func19 rfl trivial ?_ rfl
  simp only [Try.ntmps19, List.size_toArray, List.length_cons, List.length_nil, Nat.reduceAdd, Nat.reduceSub, Array.replicate_succ, Array.replicate_zero, List.push_toArray, List.append_toArray, List.nil_append, List.cons_append]
  refine wpIn_wide.2 ?_
  go_wp2_with (first | (refine' wpList_boxRep hR rfl rfl rfl ?_; clear hR; intro blk w hR) | (refine' wpList_allocRep hR rfl rfl inferInstance ?_; clear hR; intro blk w hR) | (refine' wpList_loadAll hR rfl rfl rfl inferInstance ?hm ?hn ?_; (case hm => first | with_reducible assumption | repeat (first | exact .head _ | apply List.Mem.tail)); (case hn => first | rfl | (simp; done))) | (refine' wpList_loadRow hR rfl rfl rfl inferInstance ?hm ?hv ?hn ?_; (case hm => first | with_reducible assumption | repeat (first | exact .head _ | apply List.Mem.tail)); (case hv => first | with_reducible assumption | (simp only [kC, kD, kE, kF]; first | done | rfl)); (case hn => first | rfl | (simp; done))) | (refine' wpList_loadCell hR rfl rfl rfl inferInstance ?hm ?hv ?_; (case hm => first | with_reducible assumption | repeat (first | exact .head _ | apply List.Mem.tail)); (case hv => first | rfl | with_reducible assumption)) | (refine' wpList_storeAll hR rfl rfl rfl inferInstance rfl ?hs ?zone ?zvn ?hn ?_; (case hs => repeat (first | exact SetAt.head | apply SetAt.tail)); (case zone => first | rfl | with_reducible assumption); (case zvn => first | rfl | (simp; done)); (case hn => first | rfl | (simp; done)); clear hR; intro w hR) | (refine' wpList_storeCell hR rfl rfl rfl inferInstance rfl rfl ?hs ?hn ?hl ?_; (case hs => repeat (first | exact SetAt.head | apply SetAt.tail)); (case hn => first | exact of_decide_eq_true rfl | (show _ < 4; with_reducible assumption) | (simp; first | done | omega)); (case hl => first | with_reducible assumption | (simp only [nl, kA, kB]; first | done | rfl) | rfl); clear hR; intro w hR) | (go_at_call 72; refine (short_any m hm _).mono ?_; rintro e w ⟨rfl, hb⟩; replace hR := hR.call hb; clear hb))
  refine' region_slice hR (false :: false :: false :: false :: false :: false :: false :: false :: false :: false :: false :: false :: false :: false :: false :: false :: false :: false :: false :: false :: false :: false :: true :: true :: true :: true :: false :: false :: false :: false :: false :: false :: false :: false :: false :: false :: false :: false :: false :: false :: false :: false :: false :: false :: false :: false :: false :: false :: false :: false :: false :: false :: false :: false :: false :: false :: false :: false :: false :: false :: false :: false :: false :: []) 22 (nl low ++ nl high) ?h1 ?h2
  case h1 =>
    intro Q' hQ'
    rename_i K0 k0
    clear k0
    go_region_with (go_at_call 82; refine (concat_two (hR.alloc _).drew _ _ _ _ _ _ _ _ (List.Mem.head _) (List.Mem.tail _ (List.Mem.tail _ (List.Mem.tail _ (List.Mem.tail _ (List.Mem.head _))))) (List.Mem.tail _ (List.Mem.tail _ (List.Mem.tail _ (List.Mem.head _)))) rfl rfl (ox _) (ox _)).mono ?_; rintro e w1 ⟨g, cap, cur, rfl, hR1, hcur⟩)
    all_goals exact hQ'.out g cap cur _ _ (agree_of rfl rfl rfl) hR1.second hcur
  case h2 =>
    clear hR
    rename_i b3 _ b4 _ b5 _ _ K1 k1 K0 k0
    intro g cap cur tm w ht hR hcur
    repeat (first | (obtain ⟨x, tm', e, ht'⟩ := agree_true ht; clear ht; subst e; have ht := ht'; clear ht') | (obtain ⟨tm', e, ht'⟩ := agree_false ht; clear ht; subst e; have ht := ht'; clear ht'))
    obtain rfl := agree_nil ht
    clear ht
    go_wp2_with (first | (refine' wpList_boxRep hR rfl rfl rfl ?_; clear hR; intro blk w hR) | (refine' wpList_allocRep hR rfl rfl inferInstance ?_; clear hR; intro blk w hR) | (refine' wpList_loadAll hR rfl rfl rfl inferInstance ?hm ?hn ?_; (case hm => first | with_reducible assumption | repeat (first | exact .head _ | apply List.Mem.tail)); (case hn => first | rfl | (simp; done))) | (refine' wpList_loadRow hR rfl rfl rfl inferInstance ?hm ?hv ?hn ?_; (case hm => first | with_reducible assumption | repeat (first | exact .head _ | apply List.Mem.tail)); (case hv => first | with_reducible assumption | (simp only [kC, kD, kE, kF]; first | done | rfl)); (case hn => first | rfl | (simp; done))) | (refine' wpList_loadCell hR rfl rfl rfl inferInstance ?hm ?hv ?_; (case hm => first | with_reducible assumption | repeat (first | exact .head _ | apply List.Mem.tail)); (case hv => first | rfl | with_reducible assumption)) | (refine' wpList_storeAll hR rfl rfl rfl inferInstance rfl ?hs ?zone ?zvn ?hn ?_; (case hs => repeat (first | exact SetAt.head | apply SetAt.tail)); (case zone => first | rfl | with_reducible assumption); (case zvn => first | rfl | (simp; done)); (case hn => first | rfl | (simp; done)); clear hR; intro w hR) | (refine' wpList_storeCell hR rfl rfl rfl inferInstance rfl rfl ?hs ?hn ?hl ?_; (case hs => repeat (first | exact SetAt.head | apply SetAt.tail)); (case hn => first | exact of_decide_eq_true rfl | (show _ < 4; with_reducible assumption) | (simp; first | done | omega)); (case hl => first | with_reducible assumption | (simp only [nl, kA, kB]; first | done | rfl) | rfl); clear hR; intro w hR) | (go_at_call 83; refine (backward_any _ _ _ _).mono ?_; rintro e w1 ⟨rfl, rfl⟩; have hBox := hR.alloc (.cells (List.toArray [Value.slice (some ⟨g, 0, none⟩) 8 cap]) 81); clear hR))
    rename_i K2 k2
    obtain ⟨zs, hzs, hrr⟩ := words_ex low high m hl hh h0 cur hcur
    refine range_words zs w.heap.size g cap (fun pre => [(w.heap.size, Obj.cells (List.toArray [Value.slice (some ⟨g, 0, none⟩) 8 cap]) 81), (g, Obj.cells cur 22), (blk, Obj.cells (List.toArray [Value.int .u64 (rr m pre : Int), .int .u64 0, .int .u64 0, .int .u64 0]) 24), (b5, Obj.cells (nl m).toArray 24), (b4, Obj.cells (nl high).toArray 24), (b3, Obj.cells (nl low).toArray 24)])
      rfl hBox ?hL (List.Mem.head _) ⟨cur, _, List.Mem.tail _ (List.Mem.head _), hzs⟩ ?hassign ?hbody ?hdone
    case hL =>
      intro pre p hp
      simp only [List.mem_cons, List.not_mem_nil, or_false] at hp
      rcases hp with rfl | rfl | rfl | rfl | rfl | rfl <;> rfl
    case hassign =>
      clear k1 k2
      intro k x W K hK
      simp only [List.set_cons_succ, List.set_cons_zero] at hK
      gi_wp2
      exact hK
    case hbody =>
      clear k1 k2 hBox
      intro k pre x W hR _
      simp only [List.set_cons_succ, List.set_cons_zero]
      have hrl := rr_lt (by omega : 0 < m) pre
      have hd := fun w => div64_any (rr m pre) x.2.1 m hrl hs x.2.2 w
      rw [← rstep_def, ← rr_snoc] at hd
      have hsn : rr m (pre ++ [x]) < m := rr_lt (by omega) _
      have em : wd m 0 = (m : Int) := by
        rw [wd_eq]; unfold w64; omega
      have c1 := hR.cell (off := 0) (List.Mem.tail _ (List.Mem.tail _ (List.Mem.head _))) rfl
      have c2 := hR.cell (off := 0) (List.Mem.tail _ (List.Mem.tail _ (List.Mem.tail _ (List.Mem.head _)))) rfl
      rw [em] at c2
      have hn1 : 1 ≤ 5 - 1 - 1 := by decide
      generalize hr' : rr m (pre ++ [x]) = r' at *
      generalize rr m pre = r at *
      gi_wp2_with (refine ⟨trivial, ?_⟩; gi_at_call 73; refine (CallsIn.inRound k (callsIn_wide.2 (hd _))).mono ?_; rintro e W2 ⟨rfl, hb⟩; have hR2 := hR.call hb; have c3 := hR2.cell (off := 0) (List.Mem.tail _ (List.Mem.tail _ (List.Mem.head _))) rfl; have c4 := hR2.thaw (List.Mem.tail _ (List.Mem.tail _ (List.Mem.head _))) ⟨blk, 0, none⟩ rfl)
      have hF := (hR2.storeCells (off := 0) (vs := [Value.int .u64 (r' : Int)]) (l' := [Value.int .u64 (r' : Int), .int .u64 0, .int .u64 0, .int .u64 0]) (SetAt.tail (SetAt.tail SetAt.head)) (by simp) rfl).1
      refine ⟨(KeepsOthers.below hb).trans (KeepsOthers.setCell _ _ _), fun p hp => World.cell?_of_block ?_, ?_⟩
      · rcases hp with h | h
        · rw [h]
          exact (hF.own _ (List.Mem.tail _ (List.Mem.head _))).2.trans (hR.own _ (List.Mem.tail _ (List.Mem.head _))).2.symm
        · rw [h]
          exact (hF.own _ (List.Mem.head _)).2.trans (hR.own _ (List.Mem.head _)).2.symm
      · show Rep _ _ [_, _, (blk, Obj.cells (List.toArray [Value.int .u64 (rr m (pre ++ [x]) : Int), _, _, _]) _), _, _, _] _
        rw [hr']
        exact hF
    case hdone =>
      clear hBox
      intro D W hR
      rw [hrr] at hR
      go_wp2_with (first | (refine' wpList_boxRep hR rfl rfl rfl ?_; clear hR; intro blk w hR) | (refine' wpList_allocRep hR rfl rfl inferInstance ?_; clear hR; intro blk w hR) | (refine' wpList_loadAll hR rfl rfl rfl inferInstance ?hm ?hn ?_; (case hm => first | with_reducible assumption | repeat (first | exact .head _ | apply List.Mem.tail)); (case hn => first | rfl | (simp; done))) | (refine' wpList_loadRow hR rfl rfl rfl inferInstance ?hm ?hv ?hn ?_; (case hm => first | with_reducible assumption | repeat (first | exact .head _ | apply List.Mem.tail)); (case hv => first | with_reducible assumption | (simp only [kC, kD, kE, kF]; first | done | rfl)); (case hn => first | rfl | (simp; done))) | (refine' wpList_loadCell hR rfl rfl rfl inferInstance ?hm ?hv ?_; (case hm => first | with_reducible assumption | repeat (first | exact .head _ | apply List.Mem.tail)); (case hv => first | rfl | with_reducible assumption)) | (refine' wpList_storeAll hR rfl rfl rfl inferInstance rfl ?hs ?zone ?zvn ?hn ?_; (case hs => repeat (first | exact SetAt.head | apply SetAt.tail)); (case zone => first | rfl | with_reducible assumption); (case zvn => first | rfl | (simp; done)); (case hn => first | rfl | (simp; done)); clear hR; intro w hR) | (refine' wpList_storeCell hR rfl rfl rfl inferInstance rfl rfl ?hs ?hn ?hl ?_; (case hs => repeat (first | exact SetAt.head | apply SetAt.tail)); (case hn => first | exact of_decide_eq_true rfl | (show _ < 4; with_reducible assumption) | (simp; first | done | omega)); (case hl => first | with_reducible assumption | (simp only [nl, kA, kB]; first | done | rfl) | rfl); clear hR; intro w hR) | fail)
      refine ⟨by simp, .inl ⟨_, _, rfl, run_takeDeferred (hR.own _ (List.Mem.head _)).2, ?_⟩⟩
      have hR3 := hR.putHead (.deferred none)
      refine' ⟨_, results_cr Try.results19 rfl (hR3.loadAll (P := Try.prog) (ty := 24) (List.Mem.tail _ (List.Mem.tail _ (List.Mem.head _))) rfl), ?_, hR3.below⟩
      have hw : widN low high m < 18446744073709551616 := by
        rw [widN_def, if_neg h0]
        exact Nat.lt_trans (Nat.mod_lt _ (by omega)) hs
      show _ = Ending.returned (.tuple #[.agg (nl (widN low high m)).toArray, _])
      rw [nl_small _ hw]
      rfl

set_option maxRecDepth 100000 in
set_option maxHeartbeats 1000000 in
theorem wide_none (low high : Nat) (w : World) : Calls Try.prog 19 #[num low, num high, num 0] w fun e w' =>
    e = .returned (.tuple #[num 0, .int .i64 1]) ∧ Below w.heap.size w w' := by
  have z := eqN_self 0
  have hR := Rep.init w
  go_enter Try.func19, Try.ntmps19
  go_wp2_with (first | (refine' wpList_boxRep hR rfl rfl rfl ?_; clear hR; intro blk w hR) | (refine' wpList_allocRep hR rfl rfl inferInstance ?_; clear hR; intro blk w hR) | (refine' wpList_loadAll hR rfl rfl rfl inferInstance ?hm ?hn ?_; (case hm => first | with_reducible assumption | repeat (first | exact .head _ | apply List.Mem.tail)); (case hn => first | rfl | (simp; done))) | (refine' wpList_loadRow hR rfl rfl rfl inferInstance ?hm ?hv ?hn ?_; (case hm => first | with_reducible assumption | repeat (first | exact .head _ | apply List.Mem.tail)); (case hv => first | with_reducible assumption | (simp only [kC, kD, kE, kF]; first | done | rfl)); (case hn => first | rfl | (simp; done))) | (refine' wpList_loadCell hR rfl rfl rfl inferInstance ?hm ?hv ?_; (case hm => first | with_reducible assumption | repeat (first | exact .head _ | apply List.Mem.tail)); (case hv => first | rfl | with_reducible assumption)) | (refine' wpList_storeAll hR rfl rfl rfl inferInstance rfl ?hs ?zone ?zvn ?hn ?_; (case hs => repeat (first | exact SetAt.head | apply SetAt.tail)); (case zone => first | rfl | with_reducible assumption); (case zvn => first | rfl | (simp; done)); (case hn => first | rfl | (simp; done)); clear hR; intro w hR) | (refine' wpList_storeCell hR rfl rfl rfl inferInstance rfl rfl ?hs ?hn ?hl ?_; (case hs => repeat (first | exact SetAt.head | apply SetAt.tail)); (case hn => first | exact of_decide_eq_true rfl | (show _ < 4; with_reducible assumption) | (simp; first | done | omega)); (case hl => first | with_reducible assumption | (simp only [nl, kA, kB]; first | done | rfl) | rfl); clear hR; intro w hR) | fail)
  (refine' bodyPost_ret (results_cr Try.results19 rfl (hR.loadAll (P := Try.prog) (ty := 24) ?hm ?hn)) rfl ⟨?_, hR.below⟩; (case hm => first | with_reducible assumption | repeat (first | exact .head _ | apply List.Mem.tail)); (case hn => first | rfl | (simp; done)))
  rw [num_zero]
  rfl
/-- divides.Wide, all of it. -/
theorem wide_any (low high m : Nat) (hl : low < B) (hh : high < B) (hm : m < B) (w : World) : Calls Try.prog 19 #[num low, num high, num m] w fun e w' =>
    e = .returned (.tuple #[num (widN low high m), .int .i64 (if m = 0 then 1 else 0)]) ∧ Below w.heap.size w w' := by
  by_cases h : m = 0
  · subst h
    rw [if_pos rfl, widN_def, if_pos rfl]
    exact wide_none low high w
  · rw [if_neg h]
    by_cases hs : m < 18446744073709551616
    · exact wide_short low high m hl hh h hs w
    · exact wide_long low high m hl hh hm hs w
end Go.Proofs.Ytdmdkdodfngjiaa
