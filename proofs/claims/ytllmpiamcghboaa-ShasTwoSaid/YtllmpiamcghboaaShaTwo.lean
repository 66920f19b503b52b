/- The walk of balefirelaw05.ShasTwo. -/
import Derived.Test.YtllmpiamcghboaaShaParts
set_option linter.unusedSimpArgs false
set_option linter.unusedVariables false
namespace Go.Proofs.Ytllmpiamcghboaa
open Go.RowKit
attribute [local irreducible] Calls

/-- Where the two sums stand. -/
structure Two where
  i : Nat
  m : List Nat
  n : List Nat
  r : Nat → Nat
  s : Nat → Nat
  x : Gro
  y : Gro
theorem perm_x {α : Type} (p q : α) (a b : List α) : (p :: q :: (a ++ b)).Perm ((p :: q :: b) ++ a) := (List.perm_append_comm.cons _).cons _
set_option maxRecDepth 100000 in
set_option maxHeartbeats 8000000 in
theorem two_gen {B0 : Nat} {W w : World} (v u : Value) (xss : List (List Nat)) (to : List Nat) (hv : RowsOf B0 W [] v xss) (hu : SliceOf B0 W [] u to) (hR : Rep B0 W [] w) : Calls Try.prog 8 #[v, u] w fun e w' => e = .returned (.bool true) ∧ Below B0 W w' := by
  have ca := fun w => alive5 w
  obtain ⟨a, cp, V, hva, h1, h2, h4, h5⟩ := hv
  obtain ⟨au, cu, hua, u1, u2, u3, u4⟩ := hu
  obtain ⟨N, hN⟩ : ∃ N, xss.length = N := ⟨_, rfl⟩
  obtain ⟨T, hT⟩ : ∃ T, to.length = T := ⟨_, rfl⟩
  rw [hN] at hva h1 h4 h5
  rw [hT] at hua u1 u4
  subst hva hua
  replace hN := Held.mk hN
  replace hT := Held.mk hT
  by_cases h40 : N ≤ 40
  · have g0 : ¬ (40 : Int) < (N : Int) := by omega
    have g0' : decide ((40 : Int) < (N : Int)) = false := decide_eq_false g0
    by_cases hTb : T ≤ 10000
    · have g1 : ¬ (10000 : Int) < (T : Int) := by omega
      have g1' : decide ((10000 : Int) < (T : Int)) = false := decide_eq_false g1
      go_enter Try.func8, Try.ntmps8
      go_wp2_with (first | (refine' wpList_boxRep hR rfl rfl rfl ?_; clear hR; intro blk w hR) | (refine' wpList_allocRep hR rfl rfl ?hT ?_; (case hT => exact inferInstance); clear hR; intro blk w hR) | (refine' wpList_loadAll hR rfl rfl rfl ?hT ?hm ?hn ?_; (case hT => exact inferInstance); (case hm => first | with_reducible assumption | repeat (first | exact List.Mem.head _ | with_reducible assumption | apply List.mem_cons_of_mem)); (case hn => first | rfl | (simp; done))) | (refine' wpList_loadRow hR rfl rfl rfl ?hT ?hm ?hv ?hn ?_; (case hT => exact inferInstance); (case hm => first | with_reducible assumption | repeat (first | exact List.Mem.head _ | with_reducible assumption | apply List.mem_cons_of_mem)); (case hv => first | with_reducible assumption | (simp only [List.drop_succ_cons, List.drop_zero, List.take_succ_cons, List.take_zero]; first | done | rfl)); (case hn => first | rfl | (simp; done))) | (refine' wpList_loadCell hR rfl rfl rfl ?hT ?hm ?hv ?_; (case hT => exact inferInstance); (case hm => first | with_reducible assumption | repeat (first | exact List.Mem.head _ | with_reducible assumption | apply List.mem_cons_of_mem)); (case hv => first | rfl | with_reducible assumption)) | (refine' wpList_storeAll hR rfl rfl rfl ?hT rfl ?hs ?zone ?zvn ?hn ?_; (case hT => exact inferInstance); (case hs => repeat (first | exact SetAt.head | apply SetAt.tail)); (case zone => first | rfl | with_reducible assumption); (case zvn => first | rfl | (simp; done)); (case hn => first | rfl | (simp; done)); clear hR; intro w hR) | (refine' wpList_storeCell hR rfl rfl rfl ?hT rfl rfl ?hs ?hn ?hl ?_; (case hT => exact inferInstance); (case hs => repeat (first | exact SetAt.head | apply SetAt.tail)); (case hn => first | exact of_decide_eq_true rfl | (show _ < 4; with_reducible assumption) | (simp; done) | (simp; omega)); (case hl => first | with_reducible assumption | (simp only [List.set_cons_zero, List.set_cons_succ]; done) | (simp only [List.set_cons_zero, List.set_cons_succ]; rfl) | (simp only [nl, List.set_cons_zero, List.set_cons_succ]; done) | (simp only [nl, List.set_cons_zero, List.set_cons_succ]; rfl) | rfl); clear hR; intro w hR) | (refine' wpList_loadAllG hR rfl rfl rfl ?hT ?hm ?hn ?_; (case hT => exact inferInstance); (case hm => first | with_reducible assumption | repeat (first | exact List.Mem.head _ | with_reducible assumption | apply List.mem_cons_of_mem)); (case hn => first | rfl | (simp; done))) | (refine' wpList_loadCellG hR rfl rfl rfl ?hT ?hm ?hv ?_; (case hT => exact inferInstance); (case hm => first | with_reducible assumption | repeat (first | exact List.Mem.head _ | with_reducible assumption | apply List.mem_cons_of_mem)); (case hv => first | rfl | with_reducible assumption)) | (go_at_call 20; refine (ca _).mono ?_; rintro e w ⟨rfl, hb⟩; replace hR := hR.call hb; clear hb) | (go_at_call 19; refine (new_any (L := []) hR).mono ?_; clear hR; rintro e w ⟨sa, rfl, hR⟩) | (go_at_call 19; refine (new_any hR).mono ?_; clear hR; rintro e w ⟨sb, rfl, hR⟩))
      refine' loop_while (false :: false :: false :: false :: false :: false :: false :: false :: false :: false :: false :: false :: false :: false :: false :: false :: false :: false :: false :: false :: false :: false :: false :: false :: false :: true :: true :: true :: true :: true :: true :: true :: true :: true :: true :: true :: true :: true :: true :: true :: true :: true :: true :: true :: true :: true :: true :: true :: true :: true :: true :: true :: true :: true :: true :: true :: true :: true :: true :: true :: true :: true :: true :: true :: true :: true :: true :: true :: true :: true :: true :: true :: true :: true :: true :: true :: true :: true :: true :: false :: false :: false :: false :: false :: false :: false :: false :: false :: false :: false :: false :: []) (fun (x : Two) l => ((l.set 7 (.slice x.x.a x.m.length x.x.cap)).set 8 (.slice x.y.a x.n.length x.y.cap)).set 9 (.int .i64 (x.i : Int))) (fun x => (sb, sumC x.n x.s) :: (sa, sumC x.m x.r) :: (x.x.bl ++ x.y.bl)) (fun x => N - x.i) (fun x => (x.i ≤ N ∧ x.m.length + x.n.length ≤ 30000) ∧ ((∀ j, x.m.getD j 0 < 256) ∧ ∀ j, x.n.getD j 0 < 256) ∧ (TailOk x.m x.r ∧ TailOk x.n x.s) ∧ GroOk x.x x.m ∧ GroOk x.y x.n) ⟨0, [], [], fun _ => 0, fun _ => 0, ⟨none, 0, []⟩, ⟨none, 0, []⟩⟩ ?h0 ?hO ?hR ?hs
      case h0 => exact agree_of rfl rfl rfl
      case hO => exact ⟨⟨Nat.zero_le _, Nat.zero_le _⟩, ⟨fun j => (by decide : 0 < 256), fun j => (by decide : 0 < 256)⟩, ⟨tail_nil, tail_nil⟩, .inl ⟨rfl, rfl⟩, .inl ⟨rfl, rfl⟩⟩
      case hR => exact hR
      case hs =>
        clear hR
        intro x tm w hO ht hR K0 hK0
        obtain ⟨i, m, n, r, s, ⟨xa, xc, xb⟩, ⟨ya, yc, yb⟩⟩ := x
        obtain ⟨⟨hi, hmn⟩, ⟨hmb, hnb⟩, ⟨htm, htn⟩, hgx, hgy⟩ := hO
        simp only at hi hmn hmb hnb htm htn hgx hgy ht hR
        have i0' : 0 ≤ (i : Int) := by omega
        by_cases hiN : i = N
        · subst hiN
          clear hK0
          have t1 : ¬ (i : Int) < (i : Int) := by omega
          have t2 : decide ((i : Int) < (i : Int)) = false := decide_eq_false t1
          have hSx := (gro_slice (B0 := B0) (w0 := W) (L := []) hgx hmb).mono (L' := (sb, sumC n s) :: (sa, sumC m r) :: (xb ++ yb)) fun w hw => hw.weaken (((List.sublist_append_left xb yb).cons _).cons _)
          have hSy := (gro_slice (B0 := B0) (w0 := W) (L := []) hgy hnb).mono (L' := (sb, sumC n s) :: (sa, sumC m r) :: (xb ++ yb)) fun w hw => hw.weaken (((List.sublist_append_right xb yb).cons _).cons _)
          have ch1 := fun (w' : World) (hw : Rep B0 W ((sb, sumC n s) :: (sa, sumC m r) :: (xb ++ yb)) w') => (hash_F sa m r htm (by omega) hw.swap').mono fun e w ⟨q1, q2⟩ => (⟨q1, q2.swap'⟩ : _ ∧ Rep B0 W ((sb, sumC n s) :: (sa, sumC m r) :: (xb ++ yb)) w)
          have ch2 := fun (w' : World) (hw : Rep B0 W ((sb, sumC n s) :: (sa, sumC m r) :: (xb ++ yb)) w') => hash_F sb n s htn (by omega) hw
          have co1 := fun (w' : World) (hw : Rep B0 W ((sb, sumC n s) :: (sa, sumC m r) :: (xb ++ yb)) w') => of_F m _ (by omega) hSx hw
          have co2 := fun (w' : World) (hw : Rep B0 W ((sb, sumC n s) :: (sa, sumC m r) :: (xb ++ yb)) w') => of_F n _ (by omega) hSy hw
          have q1 := eqH_self (hashF m)
          have q2 := eqH_self (hashF n)
          clear hSx hSy hgx hgy htm htn
          generalize hashF m = fm at *
          generalize hashF n = fn at *
          repeat (first | (obtain ⟨x, tm', e, ht'⟩ := agree_true ht; clear ht; subst e; have ht := ht'; clear ht') | (obtain ⟨tm', e, ht'⟩ := agree_false ht; clear ht; subst e; have ht := ht'; clear ht'))
          obtain rfl := agree_nil ht
          clear ht
          go_wp2_with (first | (refine' wpList_boxRep hR rfl rfl rfl ?_; clear hR; intro blk w hR) | (refine' wpList_allocRep hR rfl rfl ?hT ?_; (case hT => exact inferInstance); clear hR; intro blk w hR) | (refine' wpList_loadAll hR rfl rfl rfl ?hT ?hm ?hn ?_; (case hT => exact inferInstance); (case hm => first | with_reducible assumption | repeat (first | exact List.Mem.head _ | with_reducible assumption | apply List.mem_cons_of_mem)); (case hn => first | rfl | (simp; done))) | (refine' wpList_loadRow hR rfl rfl rfl ?hT ?hm ?hv ?hn ?_; (case hT => exact inferInstance); (case hm => first | with_reducible assumption | repeat (first | exact List.Mem.head _ | with_reducible assumption | apply List.mem_cons_of_mem)); (case hv => first | with_reducible assumption | (simp only [List.drop_succ_cons, List.drop_zero, List.take_succ_cons, List.take_zero]; first | done | rfl)); (case hn => first | rfl | (simp; done))) | (refine' wpList_loadCell hR rfl rfl rfl ?hT ?hm ?hv ?_; (case hT => exact inferInstance); (case hm => first | with_reducible assumption | repeat (first | exact List.Mem.head _ | with_reducible assumption | apply List.mem_cons_of_mem)); (case hv => first | rfl | with_reducible assumption)) | (refine' wpList_storeAll hR rfl rfl rfl ?hT rfl ?hs ?zone ?zvn ?hn ?_; (case hT => exact inferInstance); (case hs => repeat (first | exact SetAt.head | apply SetAt.tail)); (case zone => first | rfl | with_reducible assumption); (case zvn => first | rfl | (simp; done)); (case hn => first | rfl | (simp; done)); clear hR; intro w hR) | (refine' wpList_storeCell hR rfl rfl rfl ?hT rfl rfl ?hs ?hn ?hl ?_; (case hT => exact inferInstance); (case hs => repeat (first | exact SetAt.head | apply SetAt.tail)); (case hn => first | exact of_decide_eq_true rfl | (show _ < 4; with_reducible assumption) | (simp; done) | (simp; omega)); (case hl => first | with_reducible assumption | (simp only [List.set_cons_zero, List.set_cons_succ]; done) | (simp only [List.set_cons_zero, List.set_cons_succ]; rfl) | (simp only [nl, List.set_cons_zero, List.set_cons_succ]; done) | (simp only [nl, List.set_cons_zero, List.set_cons_succ]; rfl) | rfl); clear hR; intro w hR) | (refine' wpList_loadAllG hR rfl rfl rfl ?hT ?hm ?hn ?_; (case hT => exact inferInstance); (case hm => first | with_reducible assumption | repeat (first | exact List.Mem.head _ | with_reducible assumption | apply List.mem_cons_of_mem)); (case hn => first | rfl | (simp; done))) | (refine' wpList_loadCellG hR rfl rfl rfl ?hT ?hm ?hv ?_; (case hT => exact inferInstance); (case hm => first | with_reducible assumption | repeat (first | exact List.Mem.head _ | with_reducible assumption | apply List.mem_cons_of_mem)); (case hv => first | rfl | with_reducible assumption)) | (go_at_call 12; (first | refine (ch1 _ hR).mono ?_ | refine (ch2 _ hR).mono ?_); clear hR; rintro e w ⟨rfl, hR⟩) | (go_at_call 14; (first | refine (co1 _ hR).mono ?_ | refine (co2 _ hR).mono ?_); clear hR; rintro e w ⟨rfl, hR⟩))
          go_ret
          exact ⟨rfl, hR.below⟩
        · have g2 : (i : Int) < (N : Int) := by omega
          obtain ⟨hS, hlen⟩ := h4 i (by omega)
          have hx : xss ≠ [] := fun h => by
            have := hN.out
            rw [h] at this
            have : N = 0 := this.symm
            omega
          obtain ⟨bb, off, rfl, h6⟩ := h5 hx
          have hld := fun (L : List (Nat × Obj)) (w' : World) (hw : Rep B0 W L w') => cell_load (ty := 24) (h6 w' hw.bare i (by omega))
          have hrb : reachBytes = 140737488351232 := rfl
          generalize V i = vi at *
          generalize xss.getD i [] = xs at *
          have hxb : ∀ j, xs.getD j 0 < 256 := by
            obtain ⟨_, _, _, _, _, h, _⟩ := hS
            exact h
          have hS0 := hS
          obtain ⟨ai, ci, hvi, s1, s2, s3, s4⟩ := hS0
          subst hvi
          obtain ⟨mn, hmn2⟩ : ∃ x, m.length + n.length = x := ⟨_, rfl⟩
          obtain ⟨tot, htot⟩ : ∃ x, mn + xs.length = x := ⟨_, rfl⟩
          have e1 : IntKind.i64.wrap ((m.length : Int) + (n.length : Int)) = (mn : Int) := by rw [IntKind.wrap_i64]; omega
          have e2 : IntKind.i64.wrap ((mn : Int) + (xs.length : Int)) = (tot : Int) := by rw [IntKind.wrap_i64]; omega
          have ei : IntKind.i64.wrap ((i : Int) + 1) = (i : Int) + 1 := by rw [IntKind.wrap_i64]; omega
          have ei2 : ((i + 1 : Nat) : Int) = (i : Int) + 1 := by omega
          replace ei2 := Held.mk ei2
          by_cases hbig : tot ≤ 30000
          · have g3 : ¬ (30000 : Int) < (tot : Int) := by omega
            have cwa : ∀ (w' : World), Rep B0 W ((sb, sumC n s) :: (sa, sumC m r) :: (xb ++ yb)) w' → Calls Try.prog 11 #[.pointer (some ⟨sa, 0, none⟩), .slice ai xs.length ci] w' fun e w'' => e = .returned (.int .i64 0) ∧ ∃ r', TailOk (m ++ xs) r' ∧ Rep B0 W ((sb, sumC n s) :: (sa, sumC (m ++ xs) r') :: (xb ++ yb)) w'' := fun w' hw => (write_any sa m xs r _ htm (by omega) (hS.any) hw.swap').mono fun e w ⟨q1, r', q2, q3⟩ => ⟨q1, r', q2, q3.swap'⟩
            have cwb := fun (w' : World) (hw : Rep B0 W ((sb, sumC n s) :: (sa, sumC m r) :: (xb ++ yb)) w') => write_any sb n xs s _ htn (by omega) hS.any hw
            have hb1 : m.length + xs.length ≤ 100000000 := by omega
            have hb2 : n.length + xs.length ≤ 100000000 := by omega
            have hmb2 := getD_app_lt hmb hxb
            have hnb2 := getD_app_lt hnb hxb
            have hl1 : (m ++ xs).length + n.length ≤ 30000 := by rw [List.length_append]; omega
            have hl2 : m.length + (n ++ xs).length ≤ 30000 := by rw [List.length_append]; omega
            obtain ⟨m2, hm2⟩ : ∃ x, m ++ xs = x := ⟨_, rfl⟩
            obtain ⟨n2, hn2⟩ : ∃ x, n ++ xs = x := ⟨_, rfl⟩
            rw [hm2] at cwa hmb2 hl1
            rw [hn2] at cwb hnb2 hl2
            replace hmb := Held.mk hmb
            replace hnb := Held.mk hnb
            replace hmb2 := Held.mk hmb2
            replace hnb2 := Held.mk hnb2
            replace htm := Held.mk htm
            replace htn := Held.mk htn
            replace hl1 := Held.mk hl1
            replace hl2 := Held.mk hl2
            have wayA : ∀ (P : Prop), P → P := fun _ h => h
            clear wayA s1 s2 s3 s4 h6 h4 h5 hx hxb
            by_cases hiT : i < T
            · have g4 : (i : Int) < (T : Int) := by omega
              have g4' : decide ((i : Int) < (T : Int)) = true := decide_eq_true g4
              have hto : to ≠ [] := fun h => by
                have := hT.out
                rw [h] at this
                have : T = 0 := this.symm
                omega
              obtain ⟨bu, offu, rfl, u5⟩ := u4 hto
              have hldu := fun (L : List (Nat × Obj)) (w' : World) (hw : Rep B0 W L w') => cell_load (ty := 5) (u5 w' hw.bare i (by omega))
              generalize to.getD i 0 = tj at *
              obtain ⟨q, hq⟩ : ∃ x, tj % 2 = x := ⟨_, rfl⟩
              have e3 : (tj : Int) % 2 = (q : Int) := by omega
              have e4 : (tj : Int).tmod 2 = (q : Int) := by rw [Int.tmod_eq_emod_of_nonneg (by omega)]; omega
              have e5 : IntKind.u8.wrap (q : Int) = (q : Int) := by rw [IntKind.wrap_u8]; omega
              by_cases hq1 : q = 1
              · have t1 : ((q : Int) == 1) = true := by simp; omega
                clear u5 hto
                repeat (first | (obtain ⟨x, tm', e, ht'⟩ := agree_true ht; clear ht; subst e; have ht := ht'; clear ht') | (obtain ⟨tm', e, ht'⟩ := agree_false ht; clear ht; subst e; have ht := ht'; clear ht'))
                obtain rfl := agree_nil ht
                clear ht
                go_wp2_with (first | (refine' wpList_boxRep hR rfl rfl rfl ?_; clear hR; intro blk w hR) | (refine' wpList_allocRep hR rfl rfl ?hT ?_; (case hT => exact inferInstance); clear hR; intro blk w hR) | (refine' wpList_loadAll hR rfl rfl rfl ?hT ?hm ?hn ?_; (case hT => exact inferInstance); (case hm => first | with_reducible assumption | repeat (first | exact List.Mem.head _ | with_reducible assumption | apply List.mem_cons_of_mem)); (case hn => first | rfl | (simp; done))) | (refine' wpList_loadRow hR rfl rfl rfl ?hT ?hm ?hv ?hn ?_; (case hT => exact inferInstance); (case hm => first | with_reducible assumption | repeat (first | exact List.Mem.head _ | with_reducible assumption | apply List.mem_cons_of_mem)); (case hv => first | with_reducible assumption | (simp only [List.drop_succ_cons, List.drop_zero, List.take_succ_cons, List.take_zero]; first | done | rfl)); (case hn => first | rfl | (simp; done))) | (refine' wpList_loadCell hR rfl rfl rfl ?hT ?hm ?hv ?_; (case hT => exact inferInstance); (case hm => first | with_reducible assumption | repeat (first | exact List.Mem.head _ | with_reducible assumption | apply List.mem_cons_of_mem)); (case hv => first | rfl | with_reducible assumption)) | (refine' wpList_storeAll hR rfl rfl rfl ?hT rfl ?hs ?zone ?zvn ?hn ?_; (case hT => exact inferInstance); (case hs => repeat (first | exact SetAt.head | apply SetAt.tail)); (case zone => first | rfl | with_reducible assumption); (case zvn => first | rfl | (simp; done)); (case hn => first | rfl | (simp; done)); clear hR; intro w hR) | (refine' wpList_storeCell hR rfl rfl rfl ?hT rfl rfl ?hs ?hn ?hl ?_; (case hT => exact inferInstance); (case hs => repeat (first | exact SetAt.head | apply SetAt.tail)); (case hn => first | exact of_decide_eq_true rfl | (show _ < 4; with_reducible assumption) | (simp; done) | (simp; omega)); (case hl => first | with_reducible assumption | (simp only [List.set_cons_zero, List.set_cons_succ]; done) | (simp only [List.set_cons_zero, List.set_cons_succ]; rfl) | (simp only [nl, List.set_cons_zero, List.set_cons_succ]; done) | (simp only [nl, List.set_cons_zero, List.set_cons_succ]; rfl) | rfl); clear hR; intro w hR) | (refine' wpList_loadAllG hR rfl rfl rfl ?hT ?hm ?hn ?_; (case hT => exact inferInstance); (case hm => first | with_reducible assumption | repeat (first | exact List.Mem.head _ | with_reducible assumption | apply List.mem_cons_of_mem)); (case hn => first | rfl | (simp; done))) | (refine' wpList_loadCellG hR rfl rfl rfl ?hT ?hm ?hv ?_; (case hT => exact inferInstance); (case hm => first | with_reducible assumption | repeat (first | exact List.Mem.head _ | with_reducible assumption | apply List.mem_cons_of_mem)); (case hv => first | rfl | with_reducible assumption)) | (refine' wpList_loadFrom rfl rfl rfl (hld _ _ hR) ?_) | (refine' wpList_loadFromG rfl rfl rfl (hldu _ _ hR) ?_) | (go_at_call 11; refine (cwb _ hR).mono ?_; clear hR; rintro e w ⟨rfl, r', htl', hR⟩) | (refine' wpList_appendGro2 (L := (sb, sumC n2 r') :: (sa, sumC m r) :: xb) hR rfl rfl rfl rfl hgy hS hb2 hn2 ?_; clear hR; intro ga' gc' gb' w hal' hR))
                exact hK0.out ⟨i + 1, m, n2, r, r', ⟨xa, xc, xb⟩, ⟨ga', gc', gb'⟩⟩ _ _ ⟨⟨by show i + 1 ≤ N; omega, hl2.out⟩, ⟨hmb.out, hnb2.out⟩, ⟨htm.out, htl'⟩, hgx, hal'⟩ (by show N - (i + 1) < N - i; omega) (by simp only [ei2.out]; exact agree_of rfl rfl rfl) hR
              · have t1 : ((q : Int) == 1) = false := by simp; omega
                clear u5 hto
                repeat (first | (obtain ⟨x, tm', e, ht'⟩ := agree_true ht; clear ht; subst e; have ht := ht'; clear ht') | (obtain ⟨tm', e, ht'⟩ := agree_false ht; clear ht; subst e; have ht := ht'; clear ht'))
                obtain rfl := agree_nil ht
                clear ht
                go_wp2_with (first | (refine' wpList_boxRep hR rfl rfl rfl ?_; clear hR; intro blk w hR) | (refine' wpList_allocRep hR rfl rfl ?hT ?_; (case hT => exact inferInstance); clear hR; intro blk w hR) | (refine' wpList_loadAll hR rfl rfl rfl ?hT ?hm ?hn ?_; (case hT => exact inferInstance); (case hm => first | with_reducible assumption | repeat (first | exact List.Mem.head _ | with_reducible assumption | apply List.mem_cons_of_mem)); (case hn => first | rfl | (simp; done))) | (refine' wpList_loadRow hR rfl rfl rfl ?hT ?hm ?hv ?hn ?_; (case hT => exact inferInstance); (case hm => first | with_reducible assumption | repeat (first | exact List.Mem.head _ | with_reducible assumption | apply List.mem_cons_of_mem)); (case hv => first | with_reducible assumption | (simp only [List.drop_succ_cons, List.drop_zero, List.take_succ_cons, List.take_zero]; first | done | rfl)); (case hn => first | rfl | (simp; done))) | (refine' wpList_loadCell hR rfl rfl rfl ?hT ?hm ?hv ?_; (case hT => exact inferInstance); (case hm => first | with_reducible assumption | repeat (first | exact List.Mem.head _ | with_reducible assumption | apply List.mem_cons_of_mem)); (case hv => first | rfl | with_reducible assumption)) | (refine' wpList_storeAll hR rfl rfl rfl ?hT rfl ?hs ?zone ?zvn ?hn ?_; (case hT => exact inferInstance); (case hs => repeat (first | exact SetAt.head | apply SetAt.tail)); (case zone => first | rfl | with_reducible assumption); (case zvn => first | rfl | (simp; done)); (case hn => first | rfl | (simp; done)); clear hR; intro w hR) | (refine' wpList_storeCell hR rfl rfl rfl ?hT rfl rfl ?hs ?hn ?hl ?_; (case hT => exact inferInstance); (case hs => repeat (first | exact SetAt.head | apply SetAt.tail)); (case hn => first | exact of_decide_eq_true rfl | (show _ < 4; with_reducible assumption) | (simp; done) | (simp; omega)); (case hl => first | with_reducible assumption | (simp only [List.set_cons_zero, List.set_cons_succ]; done) | (simp only [List.set_cons_zero, List.set_cons_succ]; rfl) | (simp only [nl, List.set_cons_zero, List.set_cons_succ]; done) | (simp only [nl, List.set_cons_zero, List.set_cons_succ]; rfl) | rfl); clear hR; intro w hR) | (refine' wpList_loadAllG hR rfl rfl rfl ?hT ?hm ?hn ?_; (case hT => exact inferInstance); (case hm => first | with_reducible assumption | repeat (first | exact List.Mem.head _ | with_reducible assumption | apply List.mem_cons_of_mem)); (case hn => first | rfl | (simp; done))) | (refine' wpList_loadCellG hR rfl rfl rfl ?hT ?hm ?hv ?_; (case hT => exact inferInstance); (case hm => first | with_reducible assumption | repeat (first | exact List.Mem.head _ | with_reducible assumption | apply List.mem_cons_of_mem)); (case hv => first | rfl | with_reducible assumption)) | (refine' wpList_loadFrom rfl rfl rfl (hld _ _ hR) ?_) | (refine' wpList_loadFromG rfl rfl rfl (hldu _ _ hR) ?_) | (go_at_call 11; refine (cwa _ hR).mono ?_; clear hR; rintro e w ⟨rfl, r', htl', hR⟩) | (refine' wpList_appendGro2 (L := (sb, sumC n s) :: (sa, sumC m2 r') :: yb) (hR.perm (perm_x _ _ xb yb)) rfl rfl rfl rfl hgx hS hb1 hm2 ?_; clear hR; intro ga' gc' gb' w hal' hR))
                exact hK0.out ⟨i + 1, m2, n, r', s, ⟨ga', gc', gb'⟩, ⟨ya, yc, yb⟩⟩ _ _ ⟨⟨by show i + 1 ≤ N; omega, hl1.out⟩, ⟨hmb2.out, hnb.out⟩, ⟨htl', htn.out⟩, hal', hgy⟩ (by show N - (i + 1) < N - i; omega) (by simp only [ei2.out]; exact agree_of rfl rfl rfl) (hR.perm (perm_x _ _ gb' yb).symm)
            · have g4 : ¬ (i : Int) < (T : Int) := by omega
              have g4' : decide ((i : Int) < (T : Int)) = false := decide_eq_false g4
              clear u4
              repeat (first | (obtain ⟨x, tm', e, ht'⟩ := agree_true ht; clear ht; subst e; have ht := ht'; clear ht') | (obtain ⟨tm', e, ht'⟩ := agree_false ht; clear ht; subst e; have ht := ht'; clear ht'))
              obtain rfl := agree_nil ht
              clear ht
              go_wp2_with (first | (refine' wpList_boxRep hR rfl rfl rfl ?_; clear hR; intro blk w hR) | (refine' wpList_allocRep hR rfl rfl ?hT ?_; (case hT => exact inferInstance); clear hR; intro blk w hR) | (refine' wpList_loadAll hR rfl rfl rfl ?hT ?hm ?hn ?_; (case hT => exact inferInstance); (case hm => first | with_reducible assumption | repeat (first | exact List.Mem.head _ | with_reducible assumption | apply List.mem_cons_of_mem)); (case hn => first | rfl | (simp; done))) | (refine' wpList_loadRow hR rfl rfl rfl ?hT ?hm ?hv ?hn ?_; (case hT => exact inferInstance); (case hm => first | with_reducible assumption | repeat (first | exact List.Mem.head _ | with_reducible assumption | apply List.mem_cons_of_mem)); (case hv => first | with_reducible assumption | (simp only [List.drop_succ_cons, List.drop_zero, List.take_succ_cons, List.take_zero]; first | done | rfl)); (case hn => first | rfl | (simp; done))) | (refine' wpList_loadCell hR rfl rfl rfl ?hT ?hm ?hv ?_; (case hT => exact inferInstance); (case hm => first | with_reducible assumption | repeat (first | exact List.Mem.head _ | with_reducible assumption | apply List.mem_cons_of_mem)); (case hv => first | rfl | with_reducible assumption)) | (refine' wpList_storeAll hR rfl rfl rfl ?hT rfl ?hs ?zone ?zvn ?hn ?_; (case hT => exact inferInstance); (case hs => repeat (first | exact SetAt.head | apply SetAt.tail)); (case zone => first | rfl | with_reducible assumption); (case zvn => first | rfl | (simp; done)); (case hn => first | rfl | (simp; done)); clear hR; intro w hR) | (refine' wpList_storeCell hR rfl rfl rfl ?hT rfl rfl ?hs ?hn ?hl ?_; (case hT => exact inferInstance); (case hs => repeat (first | exact SetAt.head | apply SetAt.tail)); (case hn => first | exact of_decide_eq_true rfl | (show _ < 4; with_reducible assumption) | (simp; done) | (simp; omega)); (case hl => first | with_reducible assumption | (simp only [List.set_cons_zero, List.set_cons_succ]; done) | (simp only [List.set_cons_zero, List.set_cons_succ]; rfl) | (simp only [nl, List.set_cons_zero, List.set_cons_succ]; done) | (simp only [nl, List.set_cons_zero, List.set_cons_succ]; rfl) | rfl); clear hR; intro w hR) | (refine' wpList_loadAllG hR rfl rfl rfl ?hT ?hm ?hn ?_; (case hT => exact inferInstance); (case hm => first | with_reducible assumption | repeat (first | exact List.Mem.head _ | with_reducible assumption | apply List.mem_cons_of_mem)); (case hn => first | rfl | (simp; done))) | (refine' wpList_loadCellG hR rfl rfl rfl ?hT ?hm ?hv ?_; (case hT => exact inferInstance); (case hm => first | with_reducible assumption | repeat (first | exact List.Mem.head _ | with_reducible assumption | apply List.mem_cons_of_mem)); (case hv => first | rfl | with_reducible assumption)) | (refine' wpList_loadFrom rfl rfl rfl (hld _ _ hR) ?_) | (go_at_call 11; refine (cwa _ hR).mono ?_; clear hR; rintro e w ⟨rfl, r', htl', hR⟩) | (refine' wpList_appendGro2 (L := (sb, sumC n s) :: (sa, sumC m2 r') :: yb) (hR.perm (perm_x _ _ xb yb)) rfl rfl rfl rfl hgx hS hb1 hm2 ?_; clear hR; intro ga' gc' gb' w hal' hR))
              exact hK0.out ⟨i + 1, m2, n, r', s, ⟨ga', gc', gb'⟩, ⟨ya, yc, yb⟩⟩ _ _ ⟨⟨by show i + 1 ≤ N; omega, hl1.out⟩, ⟨hmb2.out, hnb.out⟩, ⟨htl', htn.out⟩, hal', hgy⟩ (by show N - (i + 1) < N - i; omega) (by simp only [ei2.out]; exact agree_of rfl rfl rfl) (hR.perm (perm_x _ _ gb' yb).symm)
          · have g3 : (30000 : Int) < (tot : Int) := by omega
            clear hK0 s4 h6 h4 h5
            repeat (first | (obtain ⟨x, tm', e, ht'⟩ := agree_true ht; clear ht; subst e; have ht := ht'; clear ht') | (obtain ⟨tm', e, ht'⟩ := agree_false ht; clear ht; subst e; have ht := ht'; clear ht'))
            obtain rfl := agree_nil ht
            clear ht
            go_wp2_with (first | (refine' wpList_boxRep hR rfl rfl rfl ?_; clear hR; intro blk w hR) | (refine' wpList_allocRep hR rfl rfl ?hT ?_; (case hT => exact inferInstance); clear hR; intro blk w hR) | (refine' wpList_loadAll hR rfl rfl rfl ?hT ?hm ?hn ?_; (case hT => exact inferInstance); (case hm => first | with_reducible assumption | repeat (first | exact List.Mem.head _ | with_reducible assumption | apply List.mem_cons_of_mem)); (case hn => first | rfl | (simp; done))) | (refine' wpList_loadRow hR rfl rfl rfl ?hT ?hm ?hv ?hn ?_; (case hT => exact inferInstance); (case hm => first | with_reducible assumption | repeat (first | exact List.Mem.head _ | with_reducible assumption | apply List.mem_cons_of_mem)); (case hv => first | with_reducible assumption | (simp only [List.drop_succ_cons, List.drop_zero, List.take_succ_cons, List.take_zero]; first | done | rfl)); (case hn => first | rfl | (simp; done))) | (refine' wpList_loadCell hR rfl rfl rfl ?hT ?hm ?hv ?_; (case hT => exact inferInstance); (case hm => first | with_reducible assumption | repeat (first | exact List.Mem.head _ | with_reducible assumption | apply List.mem_cons_of_mem)); (case hv => first | rfl | with_reducible assumption)) | (refine' wpList_storeAll hR rfl rfl rfl ?hT rfl ?hs ?zone ?zvn ?hn ?_; (case hT => exact inferInstance); (case hs => repeat (first | exact SetAt.head | apply SetAt.tail)); (case zone => first | rfl | with_reducible assumption); (case zvn => first | rfl | (simp; done)); (case hn => first | rfl | (simp; done)); clear hR; intro w hR) | (refine' wpList_storeCell hR rfl rfl rfl ?hT rfl rfl ?hs ?hn ?hl ?_; (case hT => exact inferInstance); (case hs => repeat (first | exact SetAt.head | apply SetAt.tail)); (case hn => first | exact of_decide_eq_true rfl | (show _ < 4; with_reducible assumption) | (simp; done) | (simp; omega)); (case hl => first | with_reducible assumption | (simp only [List.set_cons_zero, List.set_cons_succ]; done) | (simp only [List.set_cons_zero, List.set_cons_succ]; rfl) | (simp only [nl, List.set_cons_zero, List.set_cons_succ]; done) | (simp only [nl, List.set_cons_zero, List.set_cons_succ]; rfl) | rfl); clear hR; intro w hR) | (refine' wpList_loadAllG hR rfl rfl rfl ?hT ?hm ?hn ?_; (case hT => exact inferInstance); (case hm => first | with_reducible assumption | repeat (first | exact List.Mem.head _ | with_reducible assumption | apply List.mem_cons_of_mem)); (case hn => first | rfl | (simp; done))) | (refine' wpList_loadCellG hR rfl rfl rfl ?hT ?hm ?hv ?_; (case hT => exact inferInstance); (case hm => first | with_reducible assumption | repeat (first | exact List.Mem.head _ | with_reducible assumption | apply List.mem_cons_of_mem)); (case hv => first | rfl | with_reducible assumption)) | (refine' wpList_loadFrom rfl rfl rfl (hld _ _ hR) ?_))
            go_ret
            exact ⟨rfl, hR.below⟩
    · have g1 : (10000 : Int) < (T : Int) := by omega
      have g1' : decide ((10000 : Int) < (T : Int)) = true := decide_eq_true g1
      clear h4 h5 u4
      go_enter Try.func8, Try.ntmps8
      go_wp2_with (first | (refine' wpList_boxRep hR rfl rfl rfl ?_; clear hR; intro blk w hR) | (refine' wpList_allocRep hR rfl rfl ?hT ?_; (case hT => exact inferInstance); clear hR; intro blk w hR) | (refine' wpList_loadAll hR rfl rfl rfl ?hT ?hm ?hn ?_; (case hT => exact inferInstance); (case hm => first | with_reducible assumption | repeat (first | exact List.Mem.head _ | with_reducible assumption | apply List.mem_cons_of_mem)); (case hn => first | rfl | (simp; done))) | (refine' wpList_loadRow hR rfl rfl rfl ?hT ?hm ?hv ?hn ?_; (case hT => exact inferInstance); (case hm => first | with_reducible assumption | repeat (first | exact List.Mem.head _ | with_reducible assumption | apply List.mem_cons_of_mem)); (case hv => first | with_reducible assumption | (simp only [List.drop_succ_cons, List.drop_zero, List.take_succ_cons, List.take_zero]; first | done | rfl)); (case hn => first | rfl | (simp; done))) | (refine' wpList_loadCell hR rfl rfl rfl ?hT ?hm ?hv ?_; (case hT => exact inferInstance); (case hm => first | with_reducible assumption | repeat (first | exact List.Mem.head _ | with_reducible assumption | apply List.mem_cons_of_mem)); (case hv => first | rfl | with_reducible assumption)) | (refine' wpList_storeAll hR rfl rfl rfl ?hT rfl ?hs ?zone ?zvn ?hn ?_; (case hT => exact inferInstance); (case hs => repeat (first | exact SetAt.head | apply SetAt.tail)); (case zone => first | rfl | with_reducible assumption); (case zvn => first | rfl | (simp; done)); (case hn => first | rfl | (simp; done)); clear hR; intro w hR) | (refine' wpList_storeCell hR rfl rfl rfl ?hT rfl rfl ?hs ?hn ?hl ?_; (case hT => exact inferInstance); (case hs => repeat (first | exact SetAt.head | apply SetAt.tail)); (case hn => first | exact of_decide_eq_true rfl | (show _ < 4; with_reducible assumption) | (simp; done) | (simp; omega)); (case hl => first | with_reducible assumption | (simp only [List.set_cons_zero, List.set_cons_succ]; done) | (simp only [List.set_cons_zero, List.set_cons_succ]; rfl) | (simp only [nl, List.set_cons_zero, List.set_cons_succ]; done) | (simp only [nl, List.set_cons_zero, List.set_cons_succ]; rfl) | rfl); clear hR; intro w hR) | (refine' wpList_loadAllG hR rfl rfl rfl ?hT ?hm ?hn ?_; (case hT => exact inferInstance); (case hm => first | with_reducible assumption | repeat (first | exact List.Mem.head _ | with_reducible assumption | apply List.mem_cons_of_mem)); (case hn => first | rfl | (simp; done))) | (refine' wpList_loadCellG hR rfl rfl rfl ?hT ?hm ?hv ?_; (case hT => exact inferInstance); (case hm => first | with_reducible assumption | repeat (first | exact List.Mem.head _ | with_reducible assumption | apply List.mem_cons_of_mem)); (case hv => first | rfl | with_reducible assumption)) | (go_at_call 20; refine (ca _).mono ?_; rintro e w ⟨rfl, hb⟩; replace hR := hR.call hb; clear hb))
      go_ret
      exact ⟨rfl, hR.below⟩
  · have g0 : (40 : Int) < (N : Int) := by omega
    have g0' : decide ((40 : Int) < (N : Int)) = true := decide_eq_true g0
    clear h4 h5 u4
    go_enter Try.func8, Try.ntmps8
    go_wp2_with (first | (refine' wpList_boxRep hR rfl rfl rfl ?_; clear hR; intro blk w hR) | (refine' wpList_allocRep hR rfl rfl ?hT ?_; (case hT => exact inferInstance); clear hR; intro blk w hR) | (refine' wpList_loadAll hR rfl rfl rfl ?hT ?hm ?hn ?_; (case hT => exact inferInstance); (case hm => first | with_reducible assumption | repeat (first | exact List.Mem.head _ | with_reducible assumption | apply List.mem_cons_of_mem)); (case hn => first | rfl | (simp; done))) | (refine' wpList_loadRow hR rfl rfl rfl ?hT ?hm ?hv ?hn ?_; (case hT => exact inferInstance); (case hm => first | with_reducible assumption | repeat (first | exact List.Mem.head _ | with_reducible assumption | apply List.mem_cons_of_mem)); (case hv => first | with_reducible assumption | (simp only [List.drop_succ_cons, List.drop_zero, List.take_succ_cons, List.take_zero]; first | done | rfl)); (case hn => first | rfl | (simp; done))) | (refine' wpList_loadCell hR rfl rfl rfl ?hT ?hm ?hv ?_; (case hT => exact inferInstance); (case hm => first | with_reducible assumption | repeat (first | exact List.Mem.head _ | with_reducible assumption | apply List.mem_cons_of_mem)); (case hv => first | rfl | with_reducible assumption)) | (refine' wpList_storeAll hR rfl rfl rfl ?hT rfl ?hs ?zone ?zvn ?hn ?_; (case hT => exact inferInstance); (case hs => repeat (first | exact SetAt.head | apply SetAt.tail)); (case zone => first | rfl | with_reducible assumption); (case zvn => first | rfl | (simp; done)); (case hn => first | rfl | (simp; done)); clear hR; intro w hR) | (refine' wpList_storeCell hR rfl rfl rfl ?hT rfl rfl ?hs ?hn ?hl ?_; (case hT => exact inferInstance); (case hs => repeat (first | exact SetAt.head | apply SetAt.tail)); (case hn => first | exact of_decide_eq_true rfl | (show _ < 4; with_reducible assumption) | (simp; done) | (simp; omega)); (case hl => first | with_reducible assumption | (simp only [List.set_cons_zero, List.set_cons_succ]; done) | (simp only [List.set_cons_zero, List.set_cons_succ]; rfl) | (simp only [nl, List.set_cons_zero, List.set_cons_succ]; done) | (simp only [nl, List.set_cons_zero, List.set_cons_succ]; rfl) | rfl); clear hR; intro w hR) | (refine' wpList_loadAllG hR rfl rfl rfl ?hT ?hm ?hn ?_; (case hT => exact inferInstance); (case hm => first | with_reducible assumption | repeat (first | exact List.Mem.head _ | with_reducible assumption | apply List.mem_cons_of_mem)); (case hn => first | rfl | (simp; done))) | (refine' wpList_loadCellG hR rfl rfl rfl ?hT ?hm ?hv ?_; (case hT => exact inferInstance); (case hm => first | with_reducible assumption | repeat (first | exact List.Mem.head _ | with_reducible assumption | apply List.mem_cons_of_mem)); (case hv => first | rfl | with_reducible assumption)) | (go_at_call 20; refine (ca _).mono ?_; rintro e w ⟨rfl, hb⟩; replace hR := hR.call hb; clear hb))
    go_ret
    exact ⟨rfl, hR.below⟩
theorem two_walk (w : World) (v : Value) (xss : List (List Nat)) (u : Value) (to : List Nat) (hv : RowsOf w.heap.size w [] v xss) (hu : SliceOf w.heap.size w [] u to) : Calls Try.prog 8 #[v, u] w fun e w' => e = .returned (.bool true) ∧ Below w.heap.size w w' := two_gen v u xss to hv hu (Rep.init w)
end Go.Proofs.Ytllmpiamcghboaa
