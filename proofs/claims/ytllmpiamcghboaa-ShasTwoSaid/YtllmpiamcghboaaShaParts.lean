/- The walk of balefirelaw05.ShasParts. -/
import Derived.Test.YtllmpiamcghboaaShaAll
set_option linter.unusedSimpArgs false
set_option linter.unusedVariables false
namespace Go.Proofs.Ytllmpiamcghboaa
open Go.RowKit
attribute [local irreducible] Calls

/-- Where the parts stand. -/
structure Pst where
  i : Nat
  m : List Nat
  r : Nat → Nat
  al : Gro
theorem wpList_appendGro2 {B0 : Nat} {w0 w : World} {L : List (Nat × Obj)} {ops : Array Oper} {rest : List Oper} {o : Oper} {a : Act} {Q : Exit → Act → World → Prop} {ga : Option Addr} {gc : Nat} {gb : List (Nat × Obj)} {m xs m2 : List Nat} {v : Value} (hR : Rep B0 w0 (L ++ gb) w) (hgd : o.guard = none) {s y : Operand} (ho : o.op = .call { callee := .builtin .append, args := #[s, y], argTypes := #[24, 24] })
    (hs : a.eval s = .slice ga m.length gc) (hy : a.eval y = v) (hg : GroOk ⟨ga, gc, gb⟩ m) (hv : SliceOf B0 w0 [] v xs) (hbig : m.length + xs.length ≤ 100000000) (he : m ++ xs = m2)
    (h : ∀ ga' gc' gb' w', GroOk ⟨ga', gc', gb'⟩ m2 → Rep B0 w0 (L ++ gb') w' → wpList Try.prog ops Q rest (a.put o.dst (.slice ga' m2.length gc')) w') : wpList Try.prog ops Q (o :: rest) a w := by
  subst he
  exact wpList_appendGro (x := ⟨ga, gc, gb⟩) hR hgd ho hs hy hg hv hbig fun x' w' h1 h2 => h x'.a x'.cap x'.bl w' h1 h2
set_option maxRecDepth 100000 in
set_option maxHeartbeats 8000000 in
theorem parts_gen {B0 : Nat} {W w : World} (v : Value) (xss : List (List Nat)) (hv : RowsOf B0 W [] v xss) (hR : Rep B0 W [] w) : Calls Try.prog 6 #[v] w fun e w' => e = .returned (.bool true) ∧ Below B0 W w' := by
  have hv0 := hv
  obtain ⟨a, cp, V, hva, h1, h2, h4, h5⟩ := hv
  by_cases h60 : xss.length ≤ 60
  · have g0 : ¬ (60 : Int) < (xss.length : Int) := by omega
    have g0' : decide ((60 : Int) < (xss.length : Int)) = false := decide_eq_false g0
    have crs := fun (w' : World) (hw : Rep B0 W [] w') => records_size v xss (by omega) hv0 hw
    obtain ⟨N, hN⟩ : ∃ N, xss.length = N := ⟨_, rfl⟩
    rw [hN] at hva h1 h4 h5 h60 g0 g0'
    subst hva
    replace hN := Held.mk hN
    go_enter Try.func6, Try.ntmps6
    go_upto_if 16 with (first | go_skip | (refine' wpList_boxRep hR rfl rfl rfl ?_; clear hR; intro blk w hR) | (refine' wpList_allocRep hR rfl rfl ?hT ?_; (case hT => exact inferInstance); clear hR; intro blk w hR) | (refine' wpList_loadAll hR rfl rfl rfl ?hT ?hm ?hn ?_; (case hT => exact inferInstance); (case hm => first | with_reducible assumption | repeat (first | exact List.Mem.head _ | with_reducible assumption | apply List.mem_cons_of_mem)); (case hn => first | rfl | (simp; done))) | (refine' wpList_loadRow hR rfl rfl rfl ?hT ?hm ?hv ?hn ?_; (case hT => exact inferInstance); (case hm => first | with_reducible assumption | repeat (first | exact List.Mem.head _ | with_reducible assumption | apply List.mem_cons_of_mem)); (case hv => first | with_reducible assumption | (simp only [List.drop_succ_cons, List.drop_zero, List.take_succ_cons, List.take_zero]; first | done | rfl)); (case hn => first | rfl | (simp; done))) | (refine' wpList_loadCell hR rfl rfl rfl ?hT ?hm ?hv ?_; (case hT => exact inferInstance); (case hm => first | with_reducible assumption | repeat (first | exact List.Mem.head _ | with_reducible assumption | apply List.mem_cons_of_mem)); (case hv => first | rfl | with_reducible assumption)) | (refine' wpList_storeAll hR rfl rfl rfl ?hT rfl ?hs ?zone ?zvn ?hn ?_; (case hT => exact inferInstance); (case hs => repeat (first | exact SetAt.head | apply SetAt.tail)); (case zone => first | rfl | with_reducible assumption); (case zvn => first | rfl | (simp; done)); (case hn => first | rfl | (simp; done)); clear hR; intro w hR) | (refine' wpList_storeCell hR rfl rfl rfl ?hT rfl rfl ?hs ?hn ?hl ?_; (case hT => exact inferInstance); (case hs => repeat (first | exact SetAt.head | apply SetAt.tail)); (case hn => first | exact of_decide_eq_true rfl | (show _ < 4; with_reducible assumption) | (simp; done) | (simp; omega)); (case hl => first | with_reducible assumption | (simp only [List.set_cons_zero, List.set_cons_succ]; done) | (simp only [List.set_cons_zero, List.set_cons_succ]; rfl) | (simp only [nl, List.set_cons_zero, List.set_cons_succ]; done) | (simp only [nl, List.set_cons_zero, List.set_cons_succ]; rfl) | rfl); clear hR; intro w hR) | (refine' wpList_loadAllG hR rfl rfl rfl ?hT ?hm ?hn ?_; (case hT => exact inferInstance); (case hm => first | with_reducible assumption | repeat (first | exact List.Mem.head _ | with_reducible assumption | apply List.mem_cons_of_mem)); (case hn => first | rfl | (simp; done))) | (refine' wpList_loadCellG hR rfl rfl rfl ?hT ?hm ?hv ?_; (case hT => exact inferInstance); (case hm => first | with_reducible assumption | repeat (first | exact List.Mem.head _ | with_reducible assumption | apply List.mem_cons_of_mem)); (case hv => first | rfl | with_reducible assumption)) | (go_at_call 18; refine (crs _ hR).mono ?_; clear hR; rintro e w ⟨s, rfl, ⟨hs, hall⟩, hR⟩; rw [hN.out] at hall; replace hall := Held.mk hall) | (refine' wpList_oneNewG hR rfl rfl rfl (int_new _) ?_; clear hR; intro bt w hR) | (go_at_call 17; refine (beyond_one _ _ hs (.head _) hR).mono ?_; clear hR; rintro e w ⟨rfl, hR⟩))
    by_cases hc : 1048576 < s
    · have d0 : decide (1048576 < s) = true := decide_eq_true hc
      rw [d0]
      go_wp2_with (first | (refine' wpList_boxRep hR rfl rfl rfl ?_; clear hR; intro blk w hR) | (refine' wpList_allocRep hR rfl rfl ?hT ?_; (case hT => exact inferInstance); clear hR; intro blk w hR) | (refine' wpList_loadAll hR rfl rfl rfl ?hT ?hm ?hn ?_; (case hT => exact inferInstance); (case hm => first | with_reducible assumption | repeat (first | exact List.Mem.head _ | with_reducible assumption | apply List.mem_cons_of_mem)); (case hn => first | rfl | (simp; done))) | (refine' wpList_loadRow hR rfl rfl rfl ?hT ?hm ?hv ?hn ?_; (case hT => exact inferInstance); (case hm => first | with_reducible assumption | repeat (first | exact List.Mem.head _ | with_reducible assumption | apply List.mem_cons_of_mem)); (case hv => first | with_reducible assumption | (simp only [List.drop_succ_cons, List.drop_zero, List.take_succ_cons, List.take_zero]; first | done | rfl)); (case hn => first | rfl | (simp; done))) | (refine' wpList_loadCell hR rfl rfl rfl ?hT ?hm ?hv ?_; (case hT => exact inferInstance); (case hm => first | with_reducible assumption | repeat (first | exact List.Mem.head _ | with_reducible assumption | apply List.mem_cons_of_mem)); (case hv => first | rfl | with_reducible assumption)) | (refine' wpList_storeAll hR rfl rfl rfl ?hT rfl ?hs ?zone ?zvn ?hn ?_; (case hT => exact inferInstance); (case hs => repeat (first | exact SetAt.head | apply SetAt.tail)); (case zone => first | rfl | with_reducible assumption); (case zvn => first | rfl | (simp; done)); (case hn => first | rfl | (simp; done)); clear hR; intro w hR) | (refine' wpList_storeCell hR rfl rfl rfl ?hT rfl rfl ?hs ?hn ?hl ?_; (case hT => exact inferInstance); (case hs => repeat (first | exact SetAt.head | apply SetAt.tail)); (case hn => first | exact of_decide_eq_true rfl | (show _ < 4; with_reducible assumption) | (simp; done) | (simp; omega)); (case hl => first | with_reducible assumption | (simp only [List.set_cons_zero, List.set_cons_succ]; done) | (simp only [List.set_cons_zero, List.set_cons_succ]; rfl) | (simp only [nl, List.set_cons_zero, List.set_cons_succ]; done) | (simp only [nl, List.set_cons_zero, List.set_cons_succ]; rfl) | rfl); clear hR; intro w hR) | (refine' wpList_loadAllG hR rfl rfl rfl ?hT ?hm ?hn ?_; (case hT => exact inferInstance); (case hm => first | with_reducible assumption | repeat (first | exact List.Mem.head _ | with_reducible assumption | apply List.mem_cons_of_mem)); (case hn => first | rfl | (simp; done))) | (refine' wpList_loadCellG hR rfl rfl rfl ?hT ?hm ?hv ?_; (case hT => exact inferInstance); (case hm => first | with_reducible assumption | repeat (first | exact List.Mem.head _ | with_reducible assumption | apply List.mem_cons_of_mem)); (case hv => first | rfl | with_reducible assumption)) | fail)
      go_ret
      exact ⟨rfl, hR.below⟩
    · have d0 : decide (1048576 < s) = false := decide_eq_false hc
      rw [d0]
      have hall2 := hall.out (by omega)
      clear hall hc d0 crs hs
      replace hall2 := Held.mk hall2
      go_wp2_with (first | (refine' wpList_boxRep hR rfl rfl rfl ?_; clear hR; intro blk w hR) | (refine' wpList_allocRep hR rfl rfl ?hT ?_; (case hT => exact inferInstance); clear hR; intro blk w hR) | (refine' wpList_loadAll hR rfl rfl rfl ?hT ?hm ?hn ?_; (case hT => exact inferInstance); (case hm => first | with_reducible assumption | repeat (first | exact List.Mem.head _ | with_reducible assumption | apply List.mem_cons_of_mem)); (case hn => first | rfl | (simp; done))) | (refine' wpList_loadRow hR rfl rfl rfl ?hT ?hm ?hv ?hn ?_; (case hT => exact inferInstance); (case hm => first | with_reducible assumption | repeat (first | exact List.Mem.head _ | with_reducible assumption | apply List.mem_cons_of_mem)); (case hv => first | with_reducible assumption | (simp only [List.drop_succ_cons, List.drop_zero, List.take_succ_cons, List.take_zero]; first | done | rfl)); (case hn => first | rfl | (simp; done))) | (refine' wpList_loadCell hR rfl rfl rfl ?hT ?hm ?hv ?_; (case hT => exact inferInstance); (case hm => first | with_reducible assumption | repeat (first | exact List.Mem.head _ | with_reducible assumption | apply List.mem_cons_of_mem)); (case hv => first | rfl | with_reducible assumption)) | (refine' wpList_storeAll hR rfl rfl rfl ?hT rfl ?hs ?zone ?zvn ?hn ?_; (case hT => exact inferInstance); (case hs => repeat (first | exact SetAt.head | apply SetAt.tail)); (case zone => first | rfl | with_reducible assumption); (case zvn => first | rfl | (simp; done)); (case hn => first | rfl | (simp; done)); clear hR; intro w hR) | (refine' wpList_storeCell hR rfl rfl rfl ?hT rfl rfl ?hs ?hn ?hl ?_; (case hT => exact inferInstance); (case hs => repeat (first | exact SetAt.head | apply SetAt.tail)); (case hn => first | exact of_decide_eq_true rfl | (show _ < 4; with_reducible assumption) | (simp; done) | (simp; omega)); (case hl => first | with_reducible assumption | (simp only [List.set_cons_zero, List.set_cons_succ]; done) | (simp only [List.set_cons_zero, List.set_cons_succ]; rfl) | (simp only [nl, List.set_cons_zero, List.set_cons_succ]; done) | (simp only [nl, List.set_cons_zero, List.set_cons_succ]; rfl) | rfl); clear hR; intro w hR) | (refine' wpList_loadAllG hR rfl rfl rfl ?hT ?hm ?hn ?_; (case hT => exact inferInstance); (case hm => first | with_reducible assumption | repeat (first | exact List.Mem.head _ | with_reducible assumption | apply List.mem_cons_of_mem)); (case hn => first | rfl | (simp; done))) | (refine' wpList_loadCellG hR rfl rfl rfl ?hT ?hm ?hv ?_; (case hT => exact inferInstance); (case hm => first | with_reducible assumption | repeat (first | exact List.Mem.head _ | with_reducible assumption | apply List.mem_cons_of_mem)); (case hv => first | rfl | with_reducible assumption)) | (go_at_call 19; refine (new_any hR).mono ?_; clear hR; rintro e w ⟨sb, rfl, hR⟩))
      have hR3 := hR.swap'.drop1
      clear hR
      refine' loop_while (false :: false :: false :: false :: false :: false :: true :: true :: false :: false :: false :: false :: false :: false :: false :: false :: false :: false :: true :: true :: true :: true :: true :: true :: true :: true :: true :: true :: true :: true :: true :: true :: true :: true :: true :: true :: true :: true :: true :: true :: true :: true :: true :: true :: true :: true :: true :: true :: true :: true :: true :: true :: true :: true :: true :: true :: true :: true :: true :: true :: true :: true :: true :: true :: true :: true :: true :: true :: true :: true :: false :: false :: false :: false :: false :: []) (fun (x : Pst) l => (l.set 4 (.slice x.al.a x.m.length x.al.cap)).set 5 (.int .i64 (x.i : Int))) (fun x => (sb, sumC x.m x.r) :: x.al.bl) (fun x => N - x.i) (fun x => (x.i ≤ N ∧ x.m.length ≤ 2000000) ∧ (∀ j, x.m.getD j 0 < 256) ∧ TailOk x.m x.r ∧ GroOk x.al x.m ∧ x.m.length ≤ 1100000) ⟨0, [], fun _ => 0, ⟨none, 0, []⟩⟩ ?h0 ?hO ?hR ?hs
      case h0 => exact agree_of rfl rfl rfl
      case hO => exact ⟨⟨Nat.zero_le _, Nat.zero_le _⟩, fun j => (by decide : 0 < 256), tail_nil, .inl ⟨rfl, rfl⟩, Nat.zero_le _⟩
      case hR => exact hR3
      case hs =>
        clear hR3
        intro x tm w hO ht hR K0 hK0
        obtain ⟨i, m, r, ⟨ga, gc, gb⟩⟩ := x
        obtain ⟨⟨hi, hm20⟩, hmb, htl, hal, hml⟩ := hO
        simp only at hi hm20 hmb htl hal hml ht hR
        have i0' : 0 ≤ (i : Int) := by omega
        by_cases hiN : i = N
        · subst hiN
          clear hK0
          have t1 : ¬ (i : Int) < (i : Int) := by omega
          have t2 : decide ((i : Int) < (i : Int)) = false := decide_eq_false t1
          have hS := gro_slice (B0 := B0) (w0 := W) (L := [(sb, sumC m r)]) hal hmb
          have ch := fun (w' : World) (hw : Rep B0 W ((sb, sumC m r) :: gb) w') => hash_F sb m r htl (by omega) hw
          have cr := fun (w' : World) (hw : Rep B0 W ((sb, sumC m r) :: gb) w') => ref_of _ m (by omega) hS hw
          have q2 := eqH_self (hashF m)
          clear hS hal htl
          generalize hashF m = fm at *
          repeat (first | (obtain ⟨x, tm', e, ht'⟩ := agree_true ht; clear ht; subst e; have ht := ht'; clear ht') | (obtain ⟨tm', e, ht'⟩ := agree_false ht; clear ht; subst e; have ht := ht'; clear ht'))
          obtain rfl := agree_nil ht
          clear ht
          go_wp2_with (first | (refine' wpList_boxRep hR rfl rfl rfl ?_; clear hR; intro blk w hR) | (refine' wpList_allocRep hR rfl rfl ?hT ?_; (case hT => exact inferInstance); clear hR; intro blk w hR) | (refine' wpList_loadAll hR rfl rfl rfl ?hT ?hm ?hn ?_; (case hT => exact inferInstance); (case hm => first | with_reducible assumption | repeat (first | exact List.Mem.head _ | with_reducible assumption | apply List.mem_cons_of_mem)); (case hn => first | rfl | (simp; done))) | (refine' wpList_loadRow hR rfl rfl rfl ?hT ?hm ?hv ?hn ?_; (case hT => exact inferInstance); (case hm => first | with_reducible assumption | repeat (first | exact List.Mem.head _ | with_reducible assumption | apply List.mem_cons_of_mem)); (case hv => first | with_reducible assumption | (simp only [List.drop_succ_cons, List.drop_zero, List.take_succ_cons, List.take_zero]; first | done | rfl)); (case hn => first | rfl | (simp; done))) | (refine' wpList_loadCell hR rfl rfl rfl ?hT ?hm ?hv ?_; (case hT => exact inferInstance); (case hm => first | with_reducible assumption | repeat (first | exact List.Mem.head _ | with_reducible assumption | apply List.mem_cons_of_mem)); (case hv => first | rfl | with_reducible assumption)) | (refine' wpList_storeAll hR rfl rfl rfl ?hT rfl ?hs ?zone ?zvn ?hn ?_; (case hT => exact inferInstance); (case hs => repeat (first | exact SetAt.head | apply SetAt.tail)); (case zone => first | rfl | with_reducible assumption); (case zvn => first | rfl | (simp; done)); (case hn => first | rfl | (simp; done)); clear hR; intro w hR) | (refine' wpList_storeCell hR rfl rfl rfl ?hT rfl rfl ?hs ?hn ?hl ?_; (case hT => exact inferInstance); (case hs => repeat (first | exact SetAt.head | apply SetAt.tail)); (case hn => first | exact of_decide_eq_true rfl | (show _ < 4; with_reducible assumption) | (simp; done) | (simp; omega)); (case hl => first | with_reducible assumption | (simp only [List.set_cons_zero, List.set_cons_succ]; done) | (simp only [List.set_cons_zero, List.set_cons_succ]; rfl) | (simp only [nl, List.set_cons_zero, List.set_cons_succ]; done) | (simp only [nl, List.set_cons_zero, List.set_cons_succ]; rfl) | rfl); clear hR; intro w hR) | (refine' wpList_loadAllG hR rfl rfl rfl ?hT ?hm ?hn ?_; (case hT => exact inferInstance); (case hm => first | with_reducible assumption | repeat (first | exact List.Mem.head _ | with_reducible assumption | apply List.mem_cons_of_mem)); (case hn => first | rfl | (simp; done))) | (refine' wpList_loadCellG hR rfl rfl rfl ?hT ?hm ?hv ?_; (case hT => exact inferInstance); (case hm => first | with_reducible assumption | repeat (first | exact List.Mem.head _ | with_reducible assumption | apply List.mem_cons_of_mem)); (case hv => first | rfl | with_reducible assumption)) | (go_at_call 12; refine (ch _ hR).mono ?_; clear hR; rintro e w ⟨rfl, hR⟩) | (go_at_call 15; refine (cr _ hR).mono ?_; clear hR; rintro e w ⟨rfl, hR⟩))
          go_ret
          exact ⟨rfl, hR.below⟩
        · have g1 : (i : Int) < (N : Int) := by omega
          by_cases hm2 : m.length ≤ 20000
          · have g2 : ¬ (20000 : Int) < (m.length : Int) := by omega
            have hlen := hall2.out i (by omega)
            have hS := (h4 i (by omega)).1
            have hx : xss ≠ [] := fun h => by
              have := hN.out
              rw [h] at this
              have : N = 0 := this.symm
              omega
            obtain ⟨bb, off, rfl, h6⟩ := h5 hx
            have hld := fun (L : List (Nat × Obj)) (w' : World) (hw : Rep B0 W L w') => cell_load (ty := 24) (h6 w' hw.bare i (by omega))
            generalize V i = vi at *
            generalize xss.getD i [] = xs at *
            have hxb : ∀ j, xs.getD j 0 < 256 := by
              obtain ⟨_, _, _, _, _, h, _⟩ := hS
              exact h
            obtain ⟨m2, hmm⟩ : ∃ m2, m ++ xs = m2 := ⟨_, rfl⟩
            have hmb2 : ∀ j, m2.getD j 0 < 256 := by rw [← hmm]; exact getD_app_lt hmb hxb
            have hml2 : m2.length ≤ 1100000 := by rw [← hmm, List.length_append]; omega
            have ct := fun (w' : World) (hw : Rep B0 W ((sb, sumC m r) :: gb) w') => twin_bytes vi xs hlen hS.any hw
            have cw : ∀ (g cp : Nat) (cur : List Value) (w' : World), BufOk (xs.length + 1) (twF xs) ⟨0, g, cp, cur⟩ → Rep B0 W ((sb, sumC m r) :: (g, .cells cur.toArray 5) :: gb) w' → Calls Try.prog 11 #[.pointer (some ⟨sb, 0, none⟩), .slice (some ⟨g, 0, none⟩) xs.length cp] w' fun e w'' => e = .returned (.int .i64 0) ∧ ∃ r', TailOk m2 r' ∧ Rep B0 W ((sb, sumC m2 r') :: (g, .cells cur.toArray 5) :: gb) w'' := fun g cp cur w' hb hw => by
              have := write_any sb m xs r _ htl (by omega) (buf_slice xs hxb hb) hw
              rw [hmm] at this
              exact this
            have cl := fun (g cp : Nat) (cur : List Value) (r' : Nat → Nat) (w' : World) (hb : BufOk (xs.length + 1) (twF xs) ⟨0, g, cp, cur⟩) (hw : Rep B0 W ((sb, sumC m2 r') :: (g, .cells cur.toArray 5) :: gb) w') => left_bytes vi xs g cp cur hlen hb (.tail _ (.head _)) hS.any hw
            have hbd : m.length + xs.length ≤ 100000000 := by omega
            have hS2 := hS
            clear hall2 h4 h5 h6 hx hS htl
            have hxl : xs.length ≤ 1048576 := hlen
            clear hlen
            repeat (first | (obtain ⟨x, tm', e, ht'⟩ := agree_true ht; clear ht; subst e; have ht := ht'; clear ht') | (obtain ⟨tm', e, ht'⟩ := agree_false ht; clear ht; subst e; have ht := ht'; clear ht'))
            obtain rfl := agree_nil ht
            clear ht
            go_wp2_with (first | (refine' wpList_boxRep hR rfl rfl rfl ?_; clear hR; intro blk w hR) | (refine' wpList_allocRep hR rfl rfl ?hT ?_; (case hT => exact inferInstance); clear hR; intro blk w hR) | (refine' wpList_loadAll hR rfl rfl rfl ?hT ?hm ?hn ?_; (case hT => exact inferInstance); (case hm => first | with_reducible assumption | repeat (first | exact List.Mem.head _ | with_reducible assumption | apply List.mem_cons_of_mem)); (case hn => first | rfl | (simp; done))) | (refine' wpList_loadRow hR rfl rfl rfl ?hT ?hm ?hv ?hn ?_; (case hT => exact inferInstance); (case hm => first | with_reducible assumption | repeat (first | exact List.Mem.head _ | with_reducible assumption | apply List.mem_cons_of_mem)); (case hv => first | with_reducible assumption | (simp only [List.drop_succ_cons, List.drop_zero, List.take_succ_cons, List.take_zero]; first | done | rfl)); (case hn => first | rfl | (simp; done))) | (refine' wpList_loadCell hR rfl rfl rfl ?hT ?hm ?hv ?_; (case hT => exact inferInstance); (case hm => first | with_reducible assumption | repeat (first | exact List.Mem.head _ | with_reducible assumption | apply List.mem_cons_of_mem)); (case hv => first | rfl | with_reducible assumption)) | (refine' wpList_storeAll hR rfl rfl rfl ?hT rfl ?hs ?zone ?zvn ?hn ?_; (case hT => exact inferInstance); (case hs => repeat (first | exact SetAt.head | apply SetAt.tail)); (case zone => first | rfl | with_reducible assumption); (case zvn => first | rfl | (simp; done)); (case hn => first | rfl | (simp; done)); clear hR; intro w hR) | (refine' wpList_storeCell hR rfl rfl rfl ?hT rfl rfl ?hs ?hn ?hl ?_; (case hT => exact inferInstance); (case hs => repeat (first | exact SetAt.head | apply SetAt.tail)); (case hn => first | exact of_decide_eq_true rfl | (show _ < 4; with_reducible assumption) | (simp; done) | (simp; omega)); (case hl => first | with_reducible assumption | (simp only [List.set_cons_zero, List.set_cons_succ]; done) | (simp only [List.set_cons_zero, List.set_cons_succ]; rfl) | (simp only [nl, List.set_cons_zero, List.set_cons_succ]; done) | (simp only [nl, List.set_cons_zero, List.set_cons_succ]; rfl) | rfl); clear hR; intro w hR) | (refine' wpList_loadAllG hR rfl rfl rfl ?hT ?hm ?hn ?_; (case hT => exact inferInstance); (case hm => first | with_reducible assumption | repeat (first | exact List.Mem.head _ | with_reducible assumption | apply List.mem_cons_of_mem)); (case hn => first | rfl | (simp; done))) | (refine' wpList_loadCellG hR rfl rfl rfl ?hT ?hm ?hv ?_; (case hT => exact inferInstance); (case hm => first | with_reducible assumption | repeat (first | exact List.Mem.head _ | with_reducible assumption | apply List.mem_cons_of_mem)); (case hv => first | rfl | with_reducible assumption)) | (refine' wpList_loadFrom rfl rfl rfl (hld _ _ hR) ?_) | (refine' wpList_loadFromG rfl rfl rfl (hld _ _ hR) ?_) | (go_at_call 13; refine (ct _ hR).mono ?_; clear hR; rintro e w ⟨g, cp', rfl, cur, hb, hR⟩) | (go_at_call 11; refine (cw _ _ _ _ hb hR.swap').mono ?_; clear hR; rintro e w ⟨rfl, r', htl', hR⟩) | (go_at_call 16; refine (cl _ _ _ _ _ hb hR).mono ?_; clear hR; rintro e w ⟨rfl, hR⟩) | (refine' wpList_appendGro2 (L := [_, _]) hR rfl rfl rfl rfl hal hS2 hbd hmm ?_; clear hR; intro ga' gc' gb' w hal' hR))
            obtain ⟨ble, bbig, blen, bis⟩ := hb
            simp only at ble bbig blen bis
            have hcur : ∀ j, j < xs.length → ∃ z : Int, cur[j]? = some (.int .u8 z) := fun j hj => by
              have := u8s_at (w := twF xs) (show j < xs.length + 1 by omega)
              rw [← bis, List.getElem?_take, if_pos (by omega)] at this
              exact ⟨_, this⟩
            have hcl : cur.length = cp' := blen
            clear bis blen ct cw cl hld hS2 hal
            have hR3 : Rep B0 W ((sb, sumC m2 r') :: (g, .cells cur.toArray 5) :: gb') w := hR
            clear hR
            obtain ⟨n, hn2⟩ : ∃ n, xs.length = n := ⟨_, rfl⟩
            rw [hn2] at hcur ble hxl
            simp only [hn2]
            replace hn2 := Held.mk hn2
            replace hcur := Held.mk hcur
            refine' loop_while (false :: false :: false :: false :: false :: false :: false :: false :: false :: false :: false :: false :: false :: false :: false :: false :: false :: false :: false :: false :: false :: false :: false :: false :: false :: false :: false :: false :: false :: false :: false :: false :: false :: false :: false :: false :: false :: false :: false :: false :: false :: false :: false :: false :: false :: false :: false :: false :: false :: false :: false :: true :: true :: true :: true :: true :: true :: true :: true :: true :: true :: true :: true :: true :: true :: false :: false :: false :: false :: false :: false :: false :: false :: false :: false :: []) (fun (x : Nat × List Value) l => l.set 7 (.int .i64 (x.1 : Int))) (fun x => (sb, sumC m2 r') :: (g, .cells x.2.toArray 5) :: gb') (fun x => n - x.1) (fun x => (x.1 ≤ n ∧ x.2.length = cp') ∧ ∀ j, j < n → ∃ z : Int, x.2[j]? = some (.int .u8 z)) (0, cur) ?h0 ?hO ?hR ?hs
            case h0 => exact agree_of rfl rfl rfl
            case hO => exact ⟨⟨Nat.zero_le _, hcl⟩, hcur.out⟩
            case hR => exact hR3
            case hs =>
              clear hR3 hcur hcl
              intro x tm w hO ht hR K hK
              obtain ⟨k, cur⟩ := x
              obtain ⟨⟨hk, hcl⟩, hcur⟩ := hO
              simp only at hk hcl hcur ht hR
              have k0' : 0 ≤ (k : Int) := by omega
              by_cases hkn : k = n
              · subst hkn
                have t1 : ¬ (k : Int) < (k : Int) := by omega
                have hS := gro_slice (B0 := B0) (w0 := W) (L := [(sb, sumC m2 r'), (g, .cells cur.toArray 5)]) hal' hmb2
                have ch := fun (w' : World) (hw : Rep B0 W ((sb, sumC m2 r') :: (g, .cells cur.toArray 5) :: gb') w') => hash_F sb m2 r' htl' (by omega) hw
                have cr := fun (w' : World) (hw : Rep B0 W ((sb, sumC m2 r') :: (g, .cells cur.toArray 5) :: gb') w') => ref_of _ m2 (by omega) hS hw
                have q2 := eqH_self (hashF m2)
                have ei : IntKind.i64.wrap ((i : Int) + 1) = (i : Int) + 1 := by rw [IntKind.wrap_i64]; omega
                have ei2 : ((i + 1 : Nat) : Int) = (i : Int) + 1 := by omega
                replace hal' := Held.mk hal'
                replace htl' := Held.mk htl'
                replace hcur := Held.mk hcur
                replace hmb2 := Held.mk hmb2
                replace ei2 := Held.mk ei2
                clear hS hK
                generalize hashF m2 = fm at *
                repeat (first | (obtain ⟨x, tm', e, ht'⟩ := agree_true ht; clear ht; subst e; have ht := ht'; clear ht') | (obtain ⟨tm', e, ht'⟩ := agree_false ht; clear ht; subst e; have ht := ht'; clear ht'))
                obtain rfl := agree_nil ht
                clear ht
                go_wp2_with (first | (refine' wpList_boxRep hR rfl rfl rfl ?_; clear hR; intro blk w hR) | (refine' wpList_allocRep hR rfl rfl ?hT ?_; (case hT => exact inferInstance); clear hR; intro blk w hR) | (refine' wpList_loadAll hR rfl rfl rfl ?hT ?hm ?hn ?_; (case hT => exact inferInstance); (case hm => first | with_reducible assumption | repeat (first | exact List.Mem.head _ | with_reducible assumption | apply List.mem_cons_of_mem)); (case hn => first | rfl | (simp; done))) | (refine' wpList_loadRow hR rfl rfl rfl ?hT ?hm ?hv ?hn ?_; (case hT => exact inferInstance); (case hm => first | with_reducible assumption | repeat (first | exact List.Mem.head _ | with_reducible assumption | apply List.mem_cons_of_mem)); (case hv => first | with_reducible assumption | (simp only [List.drop_succ_cons, List.drop_zero, List.take_succ_cons, List.take_zero]; first | done | rfl)); (case hn => first | rfl | (simp; done))) | (refine' wpList_loadCell hR rfl rfl rfl ?hT ?hm ?hv ?_; (case hT => exact inferInstance); (case hm => first | with_reducible assumption | repeat (first | exact List.Mem.head _ | with_reducible assumption | apply List.mem_cons_of_mem)); (case hv => first | rfl | with_reducible assumption)) | (refine' wpList_storeAll hR rfl rfl rfl ?hT rfl ?hs ?zone ?zvn ?hn ?_; (case hT => exact inferInstance); (case hs => repeat (first | exact SetAt.head | apply SetAt.tail)); (case zone => first | rfl | with_reducible assumption); (case zvn => first | rfl | (simp; done)); (case hn => first | rfl | (simp; done)); clear hR; intro w hR) | (refine' wpList_storeCell hR rfl rfl rfl ?hT rfl rfl ?hs ?hn ?hl ?_; (case hT => exact inferInstance); (case hs => repeat (first | exact SetAt.head | apply SetAt.tail)); (case hn => first | exact of_decide_eq_true rfl | (show _ < 4; with_reducible assumption) | (simp; done) | (simp; omega)); (case hl => first | with_reducible assumption | (simp only [List.set_cons_zero, List.set_cons_succ]; done) | (simp only [List.set_cons_zero, List.set_cons_succ]; rfl) | (simp only [nl, List.set_cons_zero, List.set_cons_succ]; done) | (simp only [nl, List.set_cons_zero, List.set_cons_succ]; rfl) | rfl); clear hR; intro w hR) | (refine' wpList_loadAllG hR rfl rfl rfl ?hT ?hm ?hn ?_; (case hT => exact inferInstance); (case hm => first | with_reducible assumption | repeat (first | exact List.Mem.head _ | with_reducible assumption | apply List.mem_cons_of_mem)); (case hn => first | rfl | (simp; done))) | (refine' wpList_loadCellG hR rfl rfl rfl ?hT ?hm ?hv ?_; (case hT => exact inferInstance); (case hm => first | with_reducible assumption | repeat (first | exact List.Mem.head _ | with_reducible assumption | apply List.mem_cons_of_mem)); (case hv => first | rfl | with_reducible assumption)) | (go_at_call 12; refine (ch _ hR).mono ?_; clear hR; rintro e w ⟨rfl, hR⟩) | (go_at_call 15; refine (cr _ hR).mono ?_; clear hR; rintro e w ⟨rfl, hR⟩))
                exact hK0.out ⟨i + 1, m2, r', ⟨ga', gc', gb'⟩⟩ _ _ ⟨⟨by show i + 1 ≤ N; omega, by show m2.length ≤ 2000000; omega⟩, hmb2.out, htl'.out, hal'.out, hml2⟩ (by show N - (i + 1) < N - i; omega) (by simp only [ei2.out]; exact agree_of rfl rfl rfl) hR.swap'.drop1
              · have g3 : (k : Int) < (n : Int) := by omega
                obtain ⟨z, hz⟩ := hcur k (by omega)
                have hkl : k < cur.length := by omega
                have ek : ((k + 1 : Nat) : Int) = (k : Int) + 1 := by omega
                have e1 : IntKind.i64.wrap ((k : Int) + 1) = (k : Int) + 1 := by rw [IntKind.wrap_i64]; omega
                replace ek := Held.mk ek
                replace hcur := Held.mk hcur
                clear hK0 hal' htl' hmb2
                obtain ⟨z2, hz2⟩ : ∃ x, IntKind.u8.wrap (z + 1) = x := ⟨_, rfl⟩
                obtain ⟨cur2, hcur2⟩ : ∃ x, cur.set k (.int .u8 z2) = x := ⟨_, rfl⟩
                replace hcur2 := Held.mk hcur2
                replace hz2 := hz2
                repeat (first | (obtain ⟨x, tm', e, ht'⟩ := agree_true ht; clear ht; subst e; have ht := ht'; clear ht') | (obtain ⟨tm', e, ht'⟩ := agree_false ht; clear ht; subst e; have ht := ht'; clear ht'))
                obtain rfl := agree_nil ht
                clear ht
                go_wp2_with (first | (refine' wpList_boxRep hR rfl rfl rfl ?_; clear hR; intro blk w hR) | (refine' wpList_allocRep hR rfl rfl ?hT ?_; (case hT => exact inferInstance); clear hR; intro blk w hR) | (refine' wpList_loadAll hR rfl rfl rfl ?hT ?hm ?hn ?_; (case hT => exact inferInstance); (case hm => first | with_reducible assumption | repeat (first | exact List.Mem.head _ | with_reducible assumption | apply List.mem_cons_of_mem)); (case hn => first | rfl | (simp; done))) | (refine' wpList_loadRow hR rfl rfl rfl ?hT ?hm ?hv ?hn ?_; (case hT => exact inferInstance); (case hm => first | with_reducible assumption | repeat (first | exact List.Mem.head _ | with_reducible assumption | apply List.mem_cons_of_mem)); (case hv => first | with_reducible assumption | (simp only [List.drop_succ_cons, List.drop_zero, List.take_succ_cons, List.take_zero]; first | done | rfl)); (case hn => first | rfl | (simp; done))) | (refine' wpList_loadCell hR rfl rfl rfl ?hT ?hm ?hv ?_; (case hT => exact inferInstance); (case hm => first | with_reducible assumption | repeat (first | exact List.Mem.head _ | with_reducible assumption | apply List.mem_cons_of_mem)); (case hv => first | rfl | with_reducible assumption)) | (refine' wpList_storeAll hR rfl rfl rfl ?hT rfl ?hs ?zone ?zvn ?hn ?_; (case hT => exact inferInstance); (case hs => repeat (first | exact SetAt.head | apply SetAt.tail)); (case zone => first | rfl | with_reducible assumption); (case zvn => first | rfl | (simp; done)); (case hn => first | rfl | (simp; done)); clear hR; intro w hR) | (refine' wpList_storeCell hR rfl rfl rfl ?hT rfl rfl ?hs ?hn ?hl ?_; (case hT => exact inferInstance); (case hs => repeat (first | exact SetAt.head | apply SetAt.tail)); (case hn => first | exact of_decide_eq_true rfl | (show _ < 4; with_reducible assumption) | (simp; done) | (simp; omega)); (case hl => first | with_reducible assumption | (simp only [List.set_cons_zero, List.set_cons_succ]; done) | (simp only [List.set_cons_zero, List.set_cons_succ]; rfl) | (simp only [nl, List.set_cons_zero, List.set_cons_succ]; done) | (simp only [nl, List.set_cons_zero, List.set_cons_succ]; rfl) | rfl); clear hR; intro w hR) | (refine' wpList_storeCell hR rfl rfl rfl inferInstance rfl rfl (SetAt.tail SetAt.head) hkl hcur2.out ?_; clear hR; intro w hR))
                refine hK.out (k + 1, cur2) _ _ ⟨⟨by show k + 1 ≤ n; omega, by show cur2.length = cp'; rw [← hcur2.out]; simp [hcl]⟩, fun j hj => ?_⟩ (by show n - (k + 1) < n - k; omega) (by simp only [ek.out]; exact agree_of rfl rfl rfl) hR
                show ∃ z : Int, cur2[j]? = some (.int .u8 z)
                rw [← hcur2.out]
                by_cases hjk : k = j
                · subst hjk
                  exact ⟨z2, by simp [hkl]⟩
                · rw [List.getElem?_set_ne hjk]
                  exact hcur.out j hj
          · have g2 : (20000 : Int) < (m.length : Int) := by omega
            clear hK0
            repeat (first | (obtain ⟨x, tm', e, ht'⟩ := agree_true ht; clear ht; subst e; have ht := ht'; clear ht') | (obtain ⟨tm', e, ht'⟩ := agree_false ht; clear ht; subst e; have ht := ht'; clear ht'))
            obtain rfl := agree_nil ht
            clear ht
            go_wp2_with (first | (refine' wpList_boxRep hR rfl rfl rfl ?_; clear hR; intro blk w hR) | (refine' wpList_allocRep hR rfl rfl ?hT ?_; (case hT => exact inferInstance); clear hR; intro blk w hR) | (refine' wpList_loadAll hR rfl rfl rfl ?hT ?hm ?hn ?_; (case hT => exact inferInstance); (case hm => first | with_reducible assumption | repeat (first | exact List.Mem.head _ | with_reducible assumption | apply List.mem_cons_of_mem)); (case hn => first | rfl | (simp; done))) | (refine' wpList_loadRow hR rfl rfl rfl ?hT ?hm ?hv ?hn ?_; (case hT => exact inferInstance); (case hm => first | with_reducible assumption | repeat (first | exact List.Mem.head _ | with_reducible assumption | apply List.mem_cons_of_mem)); (case hv => first | with_reducible assumption | (simp only [List.drop_succ_cons, List.drop_zero, List.take_succ_cons, List.take_zero]; first | done | rfl)); (case hn => first | rfl | (simp; done))) | (refine' wpList_loadCell hR rfl rfl rfl ?hT ?hm ?hv ?_; (case hT => exact inferInstance); (case hm => first | with_reducible assumption | repeat (first | exact List.Mem.head _ | with_reducible assumption | apply List.mem_cons_of_mem)); (case hv => first | rfl | with_reducible assumption)) | (refine' wpList_storeAll hR rfl rfl rfl ?hT rfl ?hs ?zone ?zvn ?hn ?_; (case hT => exact inferInstance); (case hs => repeat (first | exact SetAt.head | apply SetAt.tail)); (case zone => first | rfl | with_reducible assumption); (case zvn => first | rfl | (simp; done)); (case hn => first | rfl | (simp; done)); clear hR; intro w hR) | (refine' wpList_storeCell hR rfl rfl rfl ?hT rfl rfl ?hs ?hn ?hl ?_; (case hT => exact inferInstance); (case hs => repeat (first | exact SetAt.head | apply SetAt.tail)); (case hn => first | exact of_decide_eq_true rfl | (show _ < 4; with_reducible assumption) | (simp; done) | (simp; omega)); (case hl => first | with_reducible assumption | (simp only [List.set_cons_zero, List.set_cons_succ]; done) | (simp only [List.set_cons_zero, List.set_cons_succ]; rfl) | (simp only [nl, List.set_cons_zero, List.set_cons_succ]; done) | (simp only [nl, List.set_cons_zero, List.set_cons_succ]; rfl) | rfl); clear hR; intro w hR) | (refine' wpList_loadAllG hR rfl rfl rfl ?hT ?hm ?hn ?_; (case hT => exact inferInstance); (case hm => first | with_reducible assumption | repeat (first | exact List.Mem.head _ | with_reducible assumption | apply List.mem_cons_of_mem)); (case hn => first | rfl | (simp; done))) | (refine' wpList_loadCellG hR rfl rfl rfl ?hT ?hm ?hv ?_; (case hT => exact inferInstance); (case hm => first | with_reducible assumption | repeat (first | exact List.Mem.head _ | with_reducible assumption | apply List.mem_cons_of_mem)); (case hv => first | rfl | with_reducible assumption)) | fail)
            go_ret
            exact ⟨rfl, hR.below⟩
  · have g0 : (60 : Int) < (xss.length : Int) := by omega
    have g0' : decide ((60 : Int) < (xss.length : Int)) = true := decide_eq_true g0
    subst hva
    clear h4 h5 hv0
    go_enter Try.func6, Try.ntmps6
    go_wp2_with (first | (refine' wpList_boxRep hR rfl rfl rfl ?_; clear hR; intro blk w hR) | (refine' wpList_allocRep hR rfl rfl ?hT ?_; (case hT => exact inferInstance); clear hR; intro blk w hR) | (refine' wpList_loadAll hR rfl rfl rfl ?hT ?hm ?hn ?_; (case hT => exact inferInstance); (case hm => first | with_reducible assumption | repeat (first | exact List.Mem.head _ | with_reducible assumption | apply List.mem_cons_of_mem)); (case hn => first | rfl | (simp; done))) | (refine' wpList_loadRow hR rfl rfl rfl ?hT ?hm ?hv ?hn ?_; (case hT => exact inferInstance); (case hm => first | with_reducible assumption | repeat (first | exact List.Mem.head _ | with_reducible assumption | apply List.mem_cons_of_mem)); (case hv => first | with_reducible assumption | (simp only [List.drop_succ_cons, List.drop_zero, List.take_succ_cons, List.take_zero]; first | done | rfl)); (case hn => first | rfl | (simp; done))) | (refine' wpList_loadCell hR rfl rfl rfl ?hT ?hm ?hv ?_; (case hT => exact inferInstance); (case hm => first | with_reducible assumption | repeat (first | exact List.Mem.head _ | with_reducible assumption | apply List.mem_cons_of_mem)); (case hv => first | rfl | with_reducible assumption)) | (refine' wpList_storeAll hR rfl rfl rfl ?hT rfl ?hs ?zone ?zvn ?hn ?_; (case hT => exact inferInstance); (case hs => repeat (first | exact SetAt.head | apply SetAt.tail)); (case zone => first | rfl | with_reducible assumption); (case zvn => first | rfl | (simp; done)); (case hn => first | rfl | (simp; done)); clear hR; intro w hR) | (refine' wpList_storeCell hR rfl rfl rfl ?hT rfl rfl ?hs ?hn ?hl ?_; (case hT => exact inferInstance); (case hs => repeat (first | exact SetAt.head | apply SetAt.tail)); (case hn => first | exact of_decide_eq_true rfl | (show _ < 4; with_reducible assumption) | (simp; done) | (simp; omega)); (case hl => first | with_reducible assumption | (simp only [List.set_cons_zero, List.set_cons_succ]; done) | (simp only [List.set_cons_zero, List.set_cons_succ]; rfl) | (simp only [nl, List.set_cons_zero, List.set_cons_succ]; done) | (simp only [nl, List.set_cons_zero, List.set_cons_succ]; rfl) | rfl); clear hR; intro w hR) | (refine' wpList_loadAllG hR rfl rfl rfl ?hT ?hm ?hn ?_; (case hT => exact inferInstance); (case hm => first | with_reducible assumption | repeat (first | exact List.Mem.head _ | with_reducible assumption | apply List.mem_cons_of_mem)); (case hn => first | rfl | (simp; done))) | (refine' wpList_loadCellG hR rfl rfl rfl ?hT ?hm ?hv ?_; (case hT => exact inferInstance); (case hm => first | with_reducible assumption | repeat (first | exact List.Mem.head _ | with_reducible assumption | apply List.mem_cons_of_mem)); (case hv => first | rfl | with_reducible assumption)) | fail)
    go_ret
    exact ⟨rfl, hR.below⟩
theorem parts_walk (w : World) (v : Value) (xss : List (List Nat)) (hv : RowsOf w.heap.size w [] v xss) : Calls Try.prog 6 #[v] w fun e w' => e = .returned (.bool true) ∧ Below w.heap.size w w' := parts_gen v xss hv (Rep.init w)
end Go.Proofs.Ytllmpiamcghboaa
