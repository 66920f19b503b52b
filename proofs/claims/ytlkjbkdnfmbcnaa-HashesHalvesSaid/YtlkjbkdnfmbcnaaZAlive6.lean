/- balefirelaw06.alive. -/
import Derived.Test.YtlkjbkdnfmbcnaaZK
set_option linter.unusedSimpArgs false
set_option linter.unusedVariables false
namespace Go.Proofs.Ytlkjbkdnfmbcnaa
open Go.RowKit
attribute [local irreducible] Calls Instr.build
section
variable {P : Program} {ops : Array Oper} {B0 : Nat} {w0 : World} {tl : List Nat} {Kp : List (Nat × Obj)} {Q : Exit → Act → World → Prop} {L L' : List (Nat × Obj)}
/-- A region whose orders meet in one state. -/
theorem wp_region_meet {id : Nat} {w : World} {l : List Oper} {a : Act} (hR : Rep B0 w0 L w) (tl : List Nat) (n m : Nat) (ls : Array Bool) (R : Act → List (Nat × Obj) → Prop) (hm : P.follows .mixedOrders = true) (hn : l.length = n)
    (hfin : ∀ a L, R a L → wpAnyN P l.toArray B0 w0 tl [] Q m ls a L) (h : Held (∀ a L, R a L → wpAnyN P l.toArray B0 w0 tl [] Q m ls a L) → wpAnyN P l.toArray B0 w0 tl [] Q n (Array.replicate n false) a L) : (Code.region id l.toArray true).wp P Q a w :=
  wp_region_news hR tl n hm hn (h ⟨hfin⟩)
theorem news_listed {n : Nat} {listed : Array Bool} {a : Act} (ls : Array Bool) (hl : decide (listed = ls) = true) (h : wpAnyN P ops B0 w0 tl Kp Q n ls a L) : wpAnyN P ops B0 w0 tl Kp Q n listed a L := by
  rw [of_decide_eq_true hl]; exact h
theorem isNew_sliceL {o : Oper} {a : Act} {ty el : TypeId} {n : Nat} {parts : Array (Nat × Operand)} (hg : o.guard = none) (hop : o.op = .buildSlice ty n parts) (l : List Value)
    (hrun : ∀ w, (Instr.buildSlice ty n (parts.map fun p => (p.1, a.eval p.2))).run P w = .ok (.slice (some ⟨w.heap.size, 0, none⟩) n n) (w.alloc (.cells l.toArray el))) : IsNew P o a (.cells l.toArray el) (fun b => .slice (some ⟨b, 0, none⟩) n n) :=
  ⟨hg, fun w => by
    unfold execOp
    simp only [hop, hrun, Sem.run_bind, Result.andThen_ok, Sem.run_pure]⟩
theorem yields_conv {o : Oper} {a : Act} {b m c : Nat} {l : List Value} (hg : o.guard = none) {x : Operand} (hop : o.op = .convert 38 38 x) (hx : ev a x = some (.slice (some ⟨b, 0, none⟩) m c)) (hs : SetAt L b (.cells l.toArray 5) (.cells l.toArray 5 (l.length, l.length + 1)) L') :
    YieldsK Try.prog ops o (.slice (some ⟨b, 0, none⟩) m c) a (Rep B0 w0 L) (Rep B0 w0 L') :=
  .inl ⟨wanted_of hg _, fun w hR => by
    have hx := ev_eval hx
    have hh := (hR.own _ hs.spec.1).2
    have hsh : w.shape? b = some (5, l.length) := by
      unfold World.shape?
      simp only at hh
      rw [hh]
      simp
    have e : (convert 38 38 (.slice (some ⟨b, 0, none⟩) m c)).run Try.prog w = .ok (.slice (some ⟨b, 0, none⟩) m c) (w.freeze ⟨b, l.length, none⟩ 1) := by
      simp [convert, run_underlying Try.underlying38, run_underlying Try.underlying5, markStringish, hsh]
    unfold execOp
    simp only [hop, hx, e, Sem.run_bind, Result.andThen_ok, Sem.run_pure]
    refine ⟨rfl, hR.put hs ?_ (fun k hk => ?_) ?_ ?_ ?_ ?_⟩
    · simp only at hh
      simp [World.freeze, Array.getElem?_modify, hh]
    · simp [World.freeze, Array.getElem?_modify, Ne.symm hk]
    · simp [World.freeze]
    · simp [World.freeze]
    · simp [World.freeze]
    · simp [World.freeze]⟩
theorem yields_callS {o : Oper} {a : Act} (hg : o.guard = none) {f : FuncId} {xs : List Operand} {us : Array TypeId} (hop : o.op = .call { callee := .value (.func f), args := xs.toArray, argTypes := us }) {vs : List Value} {v : Value} (hx' : evL a xs = some vs)
    (hent : ∀ w, (callFunc f vs.toArray).run P w = .ok (.enter f vs.toArray) w) (hq : ∀ w, Rep B0 w0 L w → Calls P f vs.toArray w fun e w' => e = .returned v ∧ Rep B0 w0 L w') : YieldsK P ops o v a (Rep B0 w0 L) (Rep B0 w0 L) := yields_call hg hop hx' hent hq
end
/-- The hash of what is hashed as x of a and bc. -/
noncomputable def hashX : Nat → Nat := opq (hashF [0, 0, 0, 1, 120, 0, 0, 0, 2, 0, 0, 0, 1, 97, 0, 0, 0, 2, 98, 99])
theorem hashX_def : hashX = hashF [0, 0, 0, 1, 120, 0, 0, 0, 2, 0, 0, 0, 1, 97, 0, 0, 0, 2, 98, 99] := by unfold hashX; rw [opq_eq]
theorem encX : encB (strB ⟨#[120]⟩) [[97], [98, 99]] = [0, 0, 0, 1, 120, 0, 0, 0, 2, 0, 0, 0, 1, 97, 0, 0, 0, 2, 98, 99] := by
  have e4 : ∀ x, beL 4 x = [x / 16777216 % 256, x / 65536 % 256, x / 256 % 256, x % 256] := fun x => by
    unfold beL
    simp [List.range_succ, beF_def]
  unfold encB encH encR strB
  simp [e4]
theorem byteX : ∀ j, ([0, 0, 0, 1, 120, 0, 0, 0, 2, 0, 0, 0, 1, 97, 0, 0, 0, 2, 98, 99] : List Nat).getD j 0 < 256 := fun j => by
  have : ∀ x ∈ ([0, 0, 0, 1, 120, 0, 0, 0, 2, 0, 0, 0, 1, 97, 0, 0, 0, 2, 98, 99] : List Nat), x < 256 := by decide
  rw [List.getD_eq_getElem?_getD]
  cases h : ([0, 0, 0, 1, 120, 0, 0, 0, 2, 0, 0, 0, 1, 97, 0, 0, 0, 2, 98, 99] : List Nat)[j]? with
  | none => exact (by decide : 0 < 256)
  | some x => exact this x (List.mem_of_getElem? h)
theorem rows_two (ad ad2 : Option Addr) (n c n2 c2 : Nat) (w : World) : (Instr.buildSlice 22 2 #[(0, .slice ad n c), (1, .slice ad2 n2 c2)]).run Try.prog w = .ok (.slice (some ⟨w.heap.size, 0, none⟩) 2 2) (w.alloc (.cells [Value.slice ad n c, .slice ad2 n2 c2].toArray 38)) := by go_simp
theorem byte_a (w : World) : (Instr.buildSlice 38 1 #[(0, .int .u8 97)]).run Try.prog w = .ok (.slice (some ⟨w.heap.size, 0, none⟩) 1 1) (w.alloc (.cells [Value.int .u8 97].toArray 5)) := by go_simp
theorem byte_bc (w : World) : (Instr.buildSlice 38 2 #[(0, .int .u8 98), (1, .int .u8 99)]).run Try.prog w = .ok (.slice (some ⟨w.heap.size, 0, none⟩) 2 2) (w.alloc (.cells [Value.int .u8 98, .int .u8 99].toArray 5)) := by go_simp
theorem byte_x (w : World) : (Instr.buildSlice 38 20 #[(0, .int .u8 0), (1, .int .u8 0), (2, .int .u8 0), (3, .int .u8 1), (4, .int .u8 120), (5, .int .u8 0), (6, .int .u8 0), (7, .int .u8 0), (8, .int .u8 2), (9, .int .u8 0), (10, .int .u8 0), (11, .int .u8 0), (12, .int .u8 1), (13, .int .u8 97), (14, .int .u8 0), (15, .int .u8 0), (16, .int .u8 0), (17, .int .u8 2), (18, .int .u8 98), (19, .int .u8 99)]).run Try.prog w = .ok (.slice (some ⟨w.heap.size, 0, none⟩) 20 20) (w.alloc (.cells [Value.int .u8 0, .int .u8 0, .int .u8 0, .int .u8 1, .int .u8 120, .int .u8 0, .int .u8 0, .int .u8 0, .int .u8 2, .int .u8 0, .int .u8 0, .int .u8 0, .int .u8 1, .int .u8 97, .int .u8 0, .int .u8 0, .int .u8 0, .int .u8 2, .int .u8 98, .int .u8 99].toArray 5)) := by go_simp
theorem isNew_sliceC {P : Program} {o : Oper} {a : Act} {ty el : TypeId} {n : Nat} {l : List Value} (parts : List (Nat × Value)) (hg : o.guard = none) (hop : o.op = .buildSlice ty n (parts.map fun p => (p.1, Operand.const p.2)).toArray)
    (hrun : ∀ w, (Instr.buildSlice ty n parts.toArray).run P w = .ok (.slice (some ⟨w.heap.size, 0, none⟩) n n) (w.alloc (.cells l.toArray el))) : IsNew P o a (.cells l.toArray el) (fun b => .slice (some ⟨b, 0, none⟩) n n) :=
  ⟨hg, fun w => by
    have e : (parts.map fun p => (p.1, Operand.const p.2)).toArray.map (fun p => (p.1, a.eval p.2)) = parts.toArray := by
      simp [Act.eval, Function.comp_def]
    unfold execOp
    simp only [hop, e, hrun, Sem.run_bind, Result.andThen_ok, Sem.run_pure]⟩
theorem isNew_two {P : Program} {o : Oper} {a : Act} {ty el : TypeId} {x y : Operand} {v u : Value} (hg : o.guard = none) (hop : o.op = .buildSlice ty 2 #[(0, x), (1, y)]) (hx : ev a x = some v) (hy : ev a y = some u) (hrun : ∀ w, (Instr.buildSlice ty 2 #[(0, v), (1, u)]).run P w = .ok (.slice (some ⟨w.heap.size, 0, none⟩) 2 2) (w.alloc (.cells [v, u].toArray el))) : IsNew P o a (.cells [v, u].toArray el) (fun b => .slice (some ⟨b, 0, none⟩) 2 2) :=
  ⟨hg, fun w => by
    have hx := ev_eval hx
    have hy := ev_eval hy
    unfold execOp
    simp only [hop, List.map_toArray, List.map_cons, List.map_nil, hx, hy, hrun, Sem.run_bind, Result.andThen_ok, Sem.run_pure]⟩
section
variable {B0 : Nat} {w0 w : World} {L : List (Nat × Obj)}
theorem of_abc {ba bb bc : Nat} {fa fb : Nat × Nat} (ha : (ba, Obj.cells [Value.int .u8 97].toArray 5 fa) ∈ L) (hb : (bb, Obj.cells [Value.int .u8 98, .int .u8 99].toArray 5 fb) ∈ L) (hc : (bc, Obj.cells [Value.slice (some ⟨ba, 0, none⟩) 1 1, .slice (some ⟨bb, 0, none⟩) 2 2].toArray 38) ∈ L) (hR : Rep B0 w0 L w) :
    Calls Try.prog 11 #[.string ⟨#[120]⟩, .slice (some ⟨bc, 0, none⟩) 2 2] w fun e w' => e = .returned (.agg (u8s 32 hashX).toArray) ∧ Rep B0 w0 L w' := by
  have s1 := sliceOf_own (B0 := B0) (w0 := w0) [97] ha rfl rfl byte1 (by decide)
  have s2 := sliceOf_own (B0 := B0) (w0 := w0) [98, 99] hb rfl rfl byte2 (by decide)
  have := hashes_of (L := L) ⟨#[120]⟩ (.slice (some ⟨bc, 0, none⟩) 2 2) [[97], [98, 99]] (by decide) (by decide) (fun j hj => by
    match j with
    | 0 => decide
    | 1 => decide
    | j + 2 => exact absurd hj (by simp)) ⟨_, 2, fun j => if j = 0 then .slice (some ⟨ba, 0, none⟩) 1 1 else .slice (some ⟨bb, 0, none⟩) 2 2, rfl, Nat.le_refl _, by unfold maxLen; decide, fun j hj => by
      match j with
      | 0 => exact ⟨s1, by unfold reachBytes; decide⟩
      | 1 => exact ⟨s2, by unfold reachBytes; decide⟩
      | j + 2 => exact absurd hj (by simp), fun _ => ⟨bc, 0, rfl, fun w hw j hj => by
      match j with
      | 0 => exact hw.cell (off := 0) hc rfl
      | 1 => exact hw.cell (off := 1) hc rfl
      | j + 2 => exact absurd hj (by simp)⟩⟩ hR
  rw [encX, ← hashX_def] at this
  exact this
theorem of_lit {be : Nat} {fe : Nat × Nat} (he : (be, Obj.cells [Value.int .u8 0, .int .u8 0, .int .u8 0, .int .u8 1, .int .u8 120, .int .u8 0, .int .u8 0, .int .u8 0, .int .u8 2, .int .u8 0, .int .u8 0, .int .u8 0, .int .u8 1, .int .u8 97, .int .u8 0, .int .u8 0, .int .u8 0, .int .u8 2, .int .u8 98, .int .u8 99].toArray 5 fe) ∈ L) (hR : Rep B0 w0 L w) :
    Calls Try.prog 18 #[.slice (some ⟨be, 0, none⟩) 20 20] w fun e w' => e = .returned (.agg (u8s 32 hashX).toArray) ∧ Rep B0 w0 L w' := by
  rw [hashX_def]
  exact of_F _ _ (by decide) (sliceOf_own _ he rfl rfl byteX (by decide)) hR
theorem rowsOf_nil : RowsOf B0 w0 L (.slice none 0 0) [] := ⟨none, 0, fun _ => .slice none 0 0, rfl, Nat.le_refl _, Nat.zero_le _, fun _ h => absurd h (Nat.not_lt_zero _), fun h => absurd rfl h⟩
theorem number_1 (hR : Rep B0 w0 L w) : Calls Try.prog 9 #[num 1, .string ⟨#[120]⟩, .slice none 0 0] w fun e w' => e = .returned (.tuple #[num 0, .int .i64 0]) ∧ Rep B0 w0 L w' :=
  (hash_number 1 ⟨#[120]⟩ _ [] (lt_B (by decide)) (by decide) (by decide) (fun j hj => absurd hj (Nat.not_lt_zero _)) rowsOf_nil hR).mono fun e w' ⟨h1, h2⟩ => ⟨by rw [h1, if_neg (by decide)]; unfold hnumN; rw [widN_def, if_neg (by decide), Nat.mod_one], h2⟩
theorem number_0 (hR : Rep B0 w0 L w) : ∃ x, Calls Try.prog 9 #[num 0, .string ⟨#[120]⟩, .slice none 0 0] w fun e w' => e = .returned (.tuple #[num x, .int .i64 1]) ∧ Rep B0 w0 L w' :=
  ⟨_, (hash_number 0 ⟨#[120]⟩ _ [] B_pos (by decide) (by decide) (fun j hj => absurd hj (Nat.not_lt_zero _)) rowsOf_nil hR).mono fun e w' ⟨h1, h2⟩ => ⟨by rw [h1, if_pos rfl], h2⟩⟩
end
set_option maxRecDepth 100000 in
set_option maxHeartbeats 32000000 in
theorem alive6 (w : World) : Calls Try.prog 14 #[] w fun e w' => e = .returned (.bool true) ∧ Below w.heap.size w w' := by
  have hR := Rep.init w
  have o1 := of_any 1 (by decide)
  have o0 := of_any 0 (by decide)
  obtain ⟨x0, hx0⟩ : ∃ x, hnumN (strB ⟨#[120]⟩) [] 0 = x := ⟨_, rfl⟩
  have q2 := eqH_self hashX
  have z0 := eqN_self 0
  go_enter Try.func14, Try.ntmps14
  go_wp2_with (first | (refine' wpList_boxRep hR rfl rfl rfl ?_; clear hR; intro blk w hR) | (refine' wpList_allocRep hR rfl rfl inferInstance ?_; clear hR; intro blk w hR) | (refine' wpList_loadAll hR rfl rfl rfl inferInstance ?hm ?hn ?_; (case hm => first | with_reducible assumption | repeat (first | exact .head _ | with_reducible assumption | apply List.mem_cons_of_mem)); (case hn => first | rfl | (simp; done))) | (refine' wpList_loadRow hR rfl rfl rfl inferInstance ?hm ?hv ?hn ?_; (case hm => first | with_reducible assumption | repeat (first | exact .head _ | with_reducible assumption | apply List.mem_cons_of_mem)); (case hv => first | with_reducible assumption | (simp only [kC, kD, kE, kF]; first | done | rfl)); (case hn => first | rfl | (simp; done))) | (refine' wpList_loadCell hR rfl rfl rfl inferInstance ?hm ?hv ?_; (case hm => first | with_reducible assumption | repeat (first | exact .head _ | with_reducible assumption | apply List.mem_cons_of_mem)); (case hv => first | rfl | with_reducible assumption)) | (refine' wpList_storeAll hR rfl rfl rfl inferInstance rfl ?hs ?zone ?zvn ?hn ?_; (case hs => repeat (first | exact SetAt.head | apply SetAt.tail)); (case zone => first | rfl | with_reducible assumption); (case zvn => first | rfl | (simp; done)); (case hn => first | rfl | (simp; done)); clear hR; intro w hR) | (refine' wpList_storeCell hR rfl rfl rfl inferInstance rfl rfl ?hs ?hn ?hl ?_; (case hs => repeat (first | exact SetAt.head | apply SetAt.tail)); (case hn => first | exact of_decide_eq_true rfl | (show _ < 4; with_reducible assumption) | (simp; first | done | omega)); (case hl => first | with_reducible assumption | (simp only [nl, kA, kB]; first | done | rfl) | rfl); clear hR; intro w hR) | (go_at_call 21; refine (o1 _).mono ?_; rintro e w ⟨rfl, hb⟩; replace hR := hR.call hb; clear hb) | (go_at_call 21; refine (o0 _).mono ?_; rintro e w ⟨rfl, hb⟩; replace hR := hR.call hb; clear hb) | (go_at_call 9; refine (number_1 hR).mono ?_; clear hR; rintro e w ⟨rfl, hR⟩) | (go_at_call 9; refine (number_0 hR).elim fun x0 hx => hx.mono ?_; clear hR; rintro e w ⟨rfl, hR⟩))
  rename_i b1 _ _ _ _ _ K0 kz
  obtain ⟨b2, hb2⟩ : ∃ x, x = blk := ⟨_, rfl⟩
  subst hb2
  refine wp_region_meet hR [] 24 15 (true :: true :: true :: true :: true :: true :: true :: true :: true :: List.replicate 15 false).toArray (fun a' L' => ∃ tm, a' = ⟨tm.toArray, []⟩ ∧ agree (false :: false :: false :: false :: false :: false :: false :: false :: false :: false :: false :: false :: false :: false :: false :: true :: true :: true :: true :: true :: false :: true :: true :: false :: false :: false :: false :: false :: false :: false :: false :: false :: false :: false :: false :: false :: false :: false :: []) [.bool false, .pointer (some ⟨b1, 0, none⟩), .int .i64 0, .pointer (some ⟨b2, 0, none⟩), .int .i64 1, .tuple #[num 0, .int .i64 0], num 1, .tuple #[num 0, .int .i64 0], num 0, .int .i64 0, .tuple #[num x0, .int .i64 1], num 0, .tuple #[num x0, .int .i64 1], num x0, .int .i64 1, undef, undef, undef, undef, undef, .agg (u8s 32 hashX).toArray, undef, undef, .agg (u8s 32 hashX).toArray, undef, undef, undef, undef, undef, undef, undef, undef, undef, undef, undef, undef, undef, undef] tm ∧ (b1, Obj.cells (nl 0).toArray 25) ∈ L') mixed rfl ?fin (fun hfin => ?main)
  case fin =>
    rintro a' L' ⟨tm, rfl, ht, hm⟩
    clear hR
    repeat (first | (obtain ⟨x, tm', e, ht'⟩ := agree_true ht; clear ht; subst e; have ht := ht'; clear ht') | (obtain ⟨tm', e, ht'⟩ := agree_false ht; clear ht; subst e; have ht := ht'; clear ht'))
    obtain rfl := agree_nil ht
    clear ht
    refine newsHeads [(b1, Obj.cells (nl 0).toArray 25)] [2, 2, 2, 2, 2, 2, 2, 2, 2, 1, 1, 1, 1, 1, 1, 1, 1, 1, 1, 1, 1, 1, 1, 1] 0 rfl (by repeat (first | exact sub_nil | refine sub_cons (by repeat (first | exact .head _ | with_reducible assumption | apply List.mem_cons_of_mem)) ?_)) (by repeat (first | exact sub_nil | refine sub_cons (by repeat (first | exact .head _ | with_reducible assumption | apply List.mem_cons_of_mem)) ?_)) rfl (by kernel_rfl) (fun K hK => ?_)
    repeat ((first | (refine' hd_keepRow (vs := nl 0) (n := 4) rfl rfl rfl inferInstance ?hm ?hv rfl ?ha ?_; (case hm => exact .head _); (case hv => rfl)) | (refine hd_tail ?_) | (refine' hd_move (by decide) rfl (.inl rfl) rfl ?ha ?_) | (refine' hd_move (by decide) rfl (.inr rfl) rfl ?ha ?_) | (refine' hd_loadAll rfl rfl rfl inferInstance ?hm ?hn ?ha ?_; (case hm => first | with_reducible assumption | repeat (first | exact .head _ | with_reducible assumption | apply List.mem_cons_of_mem)); (case hn => first | rfl | (simp; done))) | (refine' hd_loadRow rfl rfl rfl inferInstance ?hm ?hv ?hn ?ha ?_; (case hm => first | with_reducible assumption | repeat (first | exact .head _ | with_reducible assumption | apply List.mem_cons_of_mem)); (case hv => first | with_reducible assumption | (simp only [kC, kD, kE, kF]; first | done | rfl)); (case hn => first | rfl | (simp; done))) | (refine' hd_loadCell rfl rfl rfl inferInstance ?hm ?hv ?ha ?_; (case hm => first | with_reducible assumption | repeat (first | exact .head _ | with_reducible assumption | apply List.mem_cons_of_mem)); (case hv => first | rfl | with_reducible assumption)) | (refine' hd_keepRow rfl rfl rfl inferInstance ?hm ?hv ?hn ?ha ?_; (case hm => first | with_reducible assumption | repeat (first | exact .head _ | with_reducible assumption | apply List.mem_cons_of_mem)); (case hv => first | with_reducible assumption | (simp only [kC, kD, kE, kF]; first | done | rfl)); (case hn => first | rfl | (simp; done))) | (refine' hd_keepCell rfl rfl rfl inferInstance ?hm ?hv ?ha ?_; (case hm => first | with_reducible assumption | repeat (first | exact .head _ | with_reducible assumption | apply List.mem_cons_of_mem)); (case hv => first | rfl | with_reducible assumption)) | ((first | refine' hd_indexAddr (by decide) rfl rfl rfl rfl (fun w => ?hq) ?ha ?_ | refine' hd_binOp (by decide) rfl rfl rfl rfl (fun w => ?hq) ?ha ?_ | refine' hd_extract (by decide) rfl rfl rfl (fun w => ?hq) ?ha ?_ | refine' hd_fieldAddr (by decide) rfl rfl rfl (fun w => ?hq) ?ha ?_ | refine' hd_convert (by decide) rfl rfl rfl (fun w => ?hq) ?ha ?_ | refine' hd_index (by decide) rfl rfl rfl rfl (fun w => ?hq) ?ha ?_ | refine' hd_slice (by decide) rfl rfl rfl rfl rfl rfl (fun w => ?hq) ?ha ?_ | refine' hd_build (by decide) rfl rfl (fun w => ?hq) ?ha ?_ | refine' hd_arrayAt (by decide) rfl rfl rfl (fun w => ?hq) ?ha ?_ | refine' hd_field (by decide) rfl rfl rfl (fun w => ?hq) ?ha ?_); (case hq => go_simp; first | done | rfl)) | (refine' hd_nilCheck (by decide) rfl rfl rfl ?ha ?_) | (refine' hd_pick (by decide) rfl rfl rfl rfl ?ha ?_) | (refine' hd_skip (by decide) rfl ?ha ?_) | (refine' hd_callK rfl rfl rfl (enters Try.func21 (by kernel_rfl) (by kernel_rfl) _) (fun L' w hL hw => Calls.repQuiet hw (o0 w) rfl) ?ha ?_)); try (case ha => simp only [kP, kQ, kA, kB]; try rfl))
    refine hd_nil (hK _ _ ?_)
    clear hK K
    refine news_end (by decide +kernel) (fun w hR => ?_)
    simp only [Exit.then]
    refine kz _ _ (wp_ret ?_)
    go_ret
    exact ⟨rfl, hR.below⟩
  case main =>
    clear hR
    repeat' (first
      | exact steps_nil
      | (refine step_is 0 ?_; refine steps_new rfl rfl (isNew_one rfl rfl rfl byte_a) (fun ba => ?_) ?_; try simp only [Act.put, kA, kB, List.setIfInBounds_toArray])
      | (refine step_is 2 ?_; refine steps_new rfl rfl (isNew_two rfl rfl rfl rfl byte_bc) (fun bb => ?_) ?_; try simp only [Act.put, kA, kB, List.setIfInBounds_toArray])
      | (refine step_is 4 ?_; refine steps_new rfl rfl (isNew_two rfl rfl rfl rfl (rows_two _ _ _ _ _ _)) (fun bc => ?_) ?_; try simp only [Act.put, kA, kB, List.setIfInBounds_toArray])
      | (refine step_is 6 ?_; refine steps_new rfl rfl (isNew_sliceC [(0, .int .u8 0), (1, .int .u8 0), (2, .int .u8 0), (3, .int .u8 1), (4, .int .u8 120), (5, .int .u8 0), (6, .int .u8 0), (7, .int .u8 0), (8, .int .u8 2), (9, .int .u8 0), (10, .int .u8 0), (11, .int .u8 0), (12, .int .u8 1), (13, .int .u8 97), (14, .int .u8 0), (15, .int .u8 0), (16, .int .u8 0), (17, .int .u8 2), (18, .int .u8 98), (19, .int .u8 99)] rfl rfl byte_x) (fun be => ?_) ?_; try simp only [Act.put, kA, kB, List.setIfInBounds_toArray])
      | (refine step_is 1 ?_; refine steps_y rfl rfl (yields_conv rfl rfl rfl (by repeat (first | exact SetAt.head | apply SetAt.tail))) (by exact fun p hp => nomatch hp) ?_ ?_; try simp only [Act.put, kA, kB, List.setIfInBounds_toArray])
      | (refine step_is 3 ?_; refine steps_y rfl rfl (yields_conv rfl rfl rfl (by repeat (first | exact SetAt.head | apply SetAt.tail))) (by exact fun p hp => nomatch hp) ?_ ?_; try simp only [Act.put, kA, kB, List.setIfInBounds_toArray])
      | (refine step_is 7 ?_; refine steps_y rfl rfl (yields_conv rfl rfl rfl (by repeat (first | exact SetAt.head | apply SetAt.tail))) (by exact fun p hp => nomatch hp) ?_ ?_; try simp only [Act.put, kA, kB, List.setIfInBounds_toArray])
      | (refine step_is 5 ?_; refine steps_y rfl rfl (yields_call rfl rfl rfl (enters Try.func11 (by kernel_rfl) (by kernel_rfl) _) (fun w hw => of_abc (by repeat (first | exact .head _ | with_reducible assumption | apply List.mem_cons_of_mem)) (by repeat (first | exact .head _ | with_reducible assumption | apply List.mem_cons_of_mem)) (by repeat (first | exact .head _ | with_reducible assumption | apply List.mem_cons_of_mem)) hw)) (by exact fun p hp => nomatch hp) ?_ ?_; try simp only [Act.put, kA, kB, List.setIfInBounds_toArray])
      | (refine step_is 8 ?_; refine steps_y rfl rfl (yields_call rfl rfl rfl (enters Try.func18 (by kernel_rfl) (by kernel_rfl) _) (fun w hw => of_lit (by repeat (first | exact .head _ | with_reducible assumption | apply List.mem_cons_of_mem)) hw)) (by exact fun p hp => nomatch hp) ?_ ?_; try simp only [Act.put, kA, kB, List.setIfInBounds_toArray])
      | (refine news_listed (true :: true :: true :: true :: true :: true :: true :: true :: true :: List.replicate 15 false).toArray (by decide +kernel) (hfin.out _ _ ⟨_, rfl, agree_of rfl rfl rfl, (by repeat (first | exact .head _ | with_reducible assumption | apply List.mem_cons_of_mem))⟩))
      | refine news_at [6] (by decide +kernel) rfl ?_
      | refine news_at [7] (by decide +kernel) rfl ?_
      | refine news_at [4] (by decide +kernel) rfl ?_
      | refine news_at [4, 6] (by decide +kernel) rfl ?_
      | refine news_at [4, 7] (by decide +kernel) rfl ?_
      | refine news_at [5] (by decide +kernel) rfl ?_
      | refine news_at [5, 6] (by decide +kernel) rfl ?_
      | refine news_at [5, 7] (by decide +kernel) rfl ?_
      | refine news_at [2] (by decide +kernel) rfl ?_
      | refine news_at [2, 6] (by decide +kernel) rfl ?_
      | refine news_at [2, 7] (by decide +kernel) rfl ?_
      | refine news_at [3] (by decide +kernel) rfl ?_
      | refine news_at [3, 6] (by decide +kernel) rfl ?_
      | refine news_at [3, 7] (by decide +kernel) rfl ?_
      | refine news_at [0] (by decide +kernel) rfl ?_
      | refine news_at [0, 6] (by decide +kernel) rfl ?_
      | refine news_at [0, 7] (by decide +kernel) rfl ?_
      | refine news_at [0, 2] (by decide +kernel) rfl ?_
      | refine news_at [0, 2, 6] (by decide +kernel) rfl ?_
      | refine news_at [0, 2, 7] (by decide +kernel) rfl ?_
      | refine news_at [0, 3] (by decide +kernel) rfl ?_
      | refine news_at [0, 3, 6] (by decide +kernel) rfl ?_
      | refine news_at [0, 3, 7] (by decide +kernel) rfl ?_
      | refine news_at [1] (by decide +kernel) rfl ?_
      | refine news_at [1, 6] (by decide +kernel) rfl ?_
      | refine news_at [1, 7] (by decide +kernel) rfl ?_
      | refine news_at [1, 2] (by decide +kernel) rfl ?_
      | refine news_at [1, 2, 6] (by decide +kernel) rfl ?_
      | refine news_at [1, 2, 7] (by decide +kernel) rfl ?_
      | refine news_at [1, 3] (by decide +kernel) rfl ?_
      | refine news_at [1, 3, 6] (by decide +kernel) rfl ?_
      | refine news_at [1, 3, 7] (by decide +kernel) rfl ?_
      | refine news_at [8] (by decide +kernel) rfl ?_)
end Go.Proofs.Ytlkjbkdnfmbcnaa
