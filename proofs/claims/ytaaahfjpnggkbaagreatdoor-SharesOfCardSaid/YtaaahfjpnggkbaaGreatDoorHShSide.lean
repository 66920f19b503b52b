import Derived.Test.YtaaahfjpnggkbaaGreatDoorHShMade
import Derived.Test.YtaaahfjpnggkbaaGreatDoorHQ
import Derived.Test.YtaaahfjpnggkbaaGreatDoorHJ
set_option linter.unusedSimpArgs false
set_option linter.unusedVariables false
set_option maxRecDepth 100000
set_option maxHeartbeats 20000000
namespace Go.Proofs.YtaaahfjpnggkbaaGreatDoor
open Go.RowKit
attribute [local irreducible] Calls Instr.build Instr.buildSlice Instr.makeSlice
section
variable {P : Program} {ops : Array Oper} {B0 : Nat} {w0 : World} {L : List (Nat × Obj)} {ts : List Nat} {r acc : List Oper} {o : Oper} {a : Act} {K : List Oper → Act → Prop} {I : (World → Prop) → Prop} {C : World → Prop}
theorem hd_callV (hw : Region.wanted o (yielded ops a.tmps) = true) {f : FuncId} {x : Operand} {xs : List Operand} {us : Array TypeId} (hop : o.op = .call { callee := .value x, args := xs.toArray, argTypes := us }) (hv : a.eval x = .func (.func f) #[] #[]) {vs : List Value} {v : Value} (hx' : evL a xs = some vs)
  (hent : ∀ w, (callFunc f vs.toArray).run P w = .ok (.enter f vs.toArray) w) (hq : ∀ w, Calls P f vs.toArray w fun e w' => e = .returned v ∧ Below w.heap.size w w')
  {a' : Act} (ha : a.put o.dst v = a') (h : xBn P ops I (Rep B0 w0 L) K ts r acc a') : xBn P ops I (Rep B0 w0 L) K (0 :: ts) (o :: r) acc a :=
 xHk hw (fun w hR => by
  have e : (execOp a.eval o).run P w = .ok (.enter f vs.toArray) w := by
   have hx := xCy hx'
   unfold execOp
   simp only [hop, resolve, hv, Deferred.ofValue, Sem.run_bind, Sem.run_pure, Result.andThen_ok, hx]
   have := hent w
   simpa [invoke] using this
  rw [e]
  exact (hq w).mono fun e' w' ⟨he, hb⟩ => ⟨he, hR.call hb⟩) ha h
end
noncomputable def sdN : List Value := [.int .i64 7, .func (.func 188) #[] #[]]
noncomputable def sdS : List Value := [.int .i64 3, .func (.func 190) #[] #[]]
instance rowSide : RowT Tryz.prog 107 2 := .mk' (by kernel_rfl) (by kernel_rfl)
instance cellAtFn : xDp Tryz.prog 105 := .mk' (by kernel_rfl) (by kernel_rfl)
instance zeroSide : xKf Tryz.prog 107 [.int .i64 0, .nilFunc] := ⟨.agg #[.int .i64 0, .nilFunc], by kernel_rfl, rfl⟩
section
variable {B0 : Nat} {w0 w : World} {L : List (Nat × Obj)}
theorem nodes_any (w : World) : Calls Tryz.prog 114 #[] w fun e w' => e = .returned (.agg sdN.toArray) ∧ Below w.heap.size w w' := by
 have hR := Rep.init w
 have hsd : sdN.length = 2 := rfl
 go_enter Tryz.func114, Tryz.ntmps114
 go_wp2_with (first | (refine' aBq hR ?_; clear hR; intro blk w hR) | (refine' aRq hR ?_; clear hR; intro w hR))
 (refine' bodyPost_ret (xAq Tryz.results114 rfl (hR.loadAll (P := Tryz.prog) (ty := 107) ?hm ?hn)) rfl ⟨?_, hR.below⟩; (case hm => first | with_reducible assumption | repeat (first | exact .head _ | with_reducible assumption | apply mC)); (case hn => first | rfl | simp))
 rfl
theorem xGt (w : World) : Calls Tryz.prog 116 #[] w fun e w' => e = .returned (.agg sdS.toArray) ∧ Below w.heap.size w w' := by
 have hR := Rep.init w
 have hsd : sdS.length = 2 := rfl
 go_enter Tryz.func116, Tryz.ntmps116
 go_wp2_with (first | (refine' aBq hR ?_; clear hR; intro blk w hR) | (refine' aRq hR ?_; clear hR; intro w hR))
 (refine' bodyPost_ret (xAq Tryz.results116 rfl (hR.loadAll (P := Tryz.prog) (ty := 107) ?hm ?hn)) rfl ⟨?_, hR.below⟩; (case hm => first | with_reducible assumption | repeat (first | exact .head _ | with_reducible assumption | apply mC)); (case hn => first | rfl | simp))
 rfl
theorem xJy (i : Nat) (hi : i ≤ 1000000) (w : World) : Calls Tryz.prog 188 #[.int .i64 (i : Int)] w fun e w' => e = .returned (.int .i64 ((i : Int) + 1)) ∧ Below w.heap.size w w' := by
 have hR := Rep.init w
 have e1 : IntKind.i64.wrap ((i : Int) + 1) = (i : Int) + 1 := by rw [IntKind.wrap_i64]; omega
 go_enter Tryz.func188, Tryz.ntmps188
 go_wp2_with (fail)
 go_ret
 exact ⟨rfl, hR.below⟩
theorem xFo (i : Nat) (hi : i ≤ 1000000) (w : World) : Calls Tryz.prog 190 #[.int .i64 (i : Int)] w fun e w' => e = .returned (.int .i64 (-(i : Int) - 1)) ∧ Below w.heap.size w w' := by
 have hR := Rep.init w
 have e0 : IntKind.i64.wrap (-(i : Int)) = -(i : Int) := by rw [IntKind.wrap_i64]; omega
 have e1 : IntKind.i64.wrap (-(i : Int) - 1) = -(i : Int) - 1 := by rw [IntKind.wrap_i64]; omega
 go_enter Tryz.func190, Tryz.ntmps190
 go_wp2_with (fail)
 go_ret
 exact ⟨rfl, hR.below⟩
end
section
variable {p q g h : Nat} {B0 : Nat} {w0 w : World} {L : List (Nat × Obj)} {c1 c2 c3 n cp : Nat} {a : Option Addr} {f : Nat → Nat}
theorem vals1_N (hq : q < B) {i rv xv : Nat} {er : Int} (hi : i ≤ 1000000) (hx : sOf q ((i : Int) + 1) = xv) (h1 : (c1, Obj.cells (gl p q g h).toArray 26) ∈ L) (h2 : (c2, Obj.cells [Value.slice a n cp].toArray 27) ∈ L) (h3 : (c3, Obj.cells sdN.toArray 107) ∈ L)
  (cA : ∀ (M : List (Nat × Obj)) (w : World), Rep B0 w0 (M ++ L) w → Calls Tryz.prog 8 #[grp p q g h, .slice a n cp, num xv] w fun e w' => e = .returned (.tuple #[num rv, .int .i64 er]) ∧ Rep B0 w0 (M ++ L) w') (hR : Rep B0 w0 L w) :
  Calls Tryz.prog 189 #[.int .i64 (i : Int), .pointer (some ⟨c1, 0, none⟩), .pointer (some ⟨c2, 0, none⟩), .pointer (some ⟨c3, 0, none⟩)] w fun e w' => e = .returned (.tuple #[num rv, .int .i64 er]) ∧ Rep B0 w0 L w' := by
 have cN := fun w : World => xJy i hi w
 have cS := fun w : World => SO (p := p) (g := g) (h := h) hq (by omega) (by omega) hx w
 have row3 : sdN[1]? = some (.func (.func 188) #[] #[]) := rfl
 go_enter Tryz.func189, Tryz.ntmps189
 go_wp2_with (refine' aBq hR ?_; clear hR; intro blk w hR)
 refine xAd hR [0, 0, 0, 0, 0, 0, 0, 0, 0, 0, 0, 2, 2] [] xBd (by kernel_rfl) rfl rfl (fun K hK => ?_)
 clear hR
 repeat ((first | (refine xAp ?_) | (refine' xAj (by decide) rfl (.inl rfl) rfl ?ha ?_) | (refine' aOq ?ha ?_) | (refine' aXq ?ha ?_) | ((first | refine' xAt (by decide) rfl rfl rfl (fun w => ?hq) ?ha ?_ | refine' xAl (by decide) rfl rfl rfl (fun w => ?hq) ?ha ?_); (case hq => go_simp; try rfl)) | (refine' hd_callV rfl rfl rfl rfl (xAi Tryz.func188 (by kernel_rfl) (by kernel_rfl) _) (fun w => cN w) ?ha ?_) | (refine' xAk rfl rfl rfl (xAi Tryz.func103 (by kernel_rfl) (by kernel_rfl) _) (fun w => cS w) ?ha ?_) | (refine' xEu rfl rfl rfl (xAi Tryz.func8 (by kernel_rfl) (by kernel_rfl) _) (fun w hw => cA [_] w hw) ?ha ?_)); try (case ha => simp only [kP, kQ, kA, kB]; try rfl))
 refine xAo (hK _ _ ?_)
 clear hK K
 refine xAr (fun Q hQ => ?_)
 try simp only [List.nil_append, List.cons_append]
 repeat ((first | refine' xBf rfl (.inr rfl) rfl ?hk ?ha ?_ | (refine' aTq ?hk ?ha ?_)); (case hk => intro p hp; first | exact absurd hp List.not_mem_nil | (obtain rfl := List.mem_singleton.1 hp; repeat (first | exact List.Mem.head _ | with_reducible assumption | apply mC))); (case ha => simp only [kP, kQ, kA, kB]; try rfl))
 refine xAs (fun w hR => hQ _ _ ?_)
 clear hQ Q
 go_wp2_with (fail)
 refine' bodyPost_ret (xAh Tryz.results189 rfl (hR.loadAll (P := Tryz.prog) (ty := 24) (.head _) rfl)) rfl ⟨rfl, hR.weaken (List.sublist_cons_self _ _)⟩
theorem sdbad_N {k : Int} (hno : k < 1 ∨ 7 < k) (hR : Rep B0 w0 L w) :
  Calls Tryz.prog 115 #[.agg sdN.toArray, grp p q g h, .slice a n cp, .int .i64 k] w fun e w' => e = .returned (.tuple #[.slice none 0 0, .int .i64 1]) ∧ Rep B0 w0 L w' := by
 have row0 : sdN[0]? = some (.int .i64 7) := rfl
 by_cases k1 : k < 1
 ·clear hno
  go_enter Tryz.func115, Tryz.ntmps115
  go_wp2_with (refine' aAq hR ?_; clear hR; intro blk w hR)
  go_ret2
  exact ⟨rfl, hR.weaken (((List.sublist_cons_self _ _).trans (List.sublist_cons_self _ _)).trans (List.sublist_cons_self _ _))⟩
 ·have k2 : 7 < k := hno.resolve_left k1
  clear hno
  go_enter Tryz.func115, Tryz.ntmps115
  go_wp2_with (first | (refine' aAq hR ?_; clear hR; intro blk w hR) | (refine' aZq hR ?_))
  go_ret2
  exact ⟨rfl, hR.weaken (((List.sublist_cons_self _ _).trans (List.sublist_cons_self _ _)).trans (List.sublist_cons_self _ _))⟩
theorem sdvals_N (hq : q < B) {m : Nat} (hm : 1 ≤ m) (hm' : m ≤ 7) {V : Nat → Nat} {E : Nat → Int} (hV : ∀ i : Nat, i < 7 → ∀ (M : List (Nat × Obj)) (w : World), Rep B0 w0 (M ++ L) w → Calls Tryz.prog 8 #[grp p q g h, .slice a n cp, num (sOf q ((i : Int) + 1))] w fun e w' => e = .returned (.tuple #[num (V i), .int .i64 (E i)]) ∧ Rep B0 w0 (M ++ L) w') (hR : Rep B0 w0 L w) :
  Calls Tryz.prog 115 #[.agg sdN.toArray, grp p q g h, .slice a n cp, .int .i64 (m : Int)] w fun e w' =>
   (errF E m = 0 ∧ ∃ x : GrN, e = .returned (.tuple #[.slice x.a m x.cap, .int .i64 0]) ∧ xCc x m V ∧ Rep B0 w0 (x.bl ++ L) w') ∨
   (errF E m ≠ 0 ∧ e = .returned (.tuple #[.slice none 0 0, .int .i64 (errF E m)]) ∧ Rep B0 w0 L w') := by
 have row0 : sdN[0]? = some (.int .i64 7) := rfl
 have k1 : ¬ (m : Int) < 1 := by omega
 have k2 : ¬ (7 : Int) < (m : Int) := by omega
 have hmf : ∀ (fn : Fn) (first cap : Array Value) (w : World), (Instr.makeFunc fn first cap).run Tryz.prog w = .ok (.func fn first cap) w := fun _ _ _ _ => rfl
 have cM := fun (b4 b5 b6 : Nat) (w : World) (hw : Rep B0 w0 ((b6, .cells [Value.slice a n cp].toArray 27) :: (b5, .cells (gl p q g h).toArray 26) :: (b4, .cells sdN.toArray 107) :: L) w) =>
  made_V (n := m) (p1 := b5) (p2 := b6) (p3 := b4) (V := V) (E := E) (by omega) (fun i hi M w hw => vals1_N hq (by omega) rfl (List.mem_append_right _ (.tail _ (.head _))) (List.mem_append_right _ (.head _)) (List.mem_append_right _ (.tail _ (.tail _ (.head _))))
   (fun N w hw => by
    have e : N ++ (M ++ ((b6, Obj.cells [Value.slice a n cp].toArray 27) :: (b5, .cells (gl p q g h).toArray 26) :: (b4, .cells sdN.toArray 107) :: L)) = (N ++ M ++ [(b6, Obj.cells [Value.slice a n cp].toArray 27), (b5, .cells (gl p q g h).toArray 26), (b4, .cells sdN.toArray 107)]) ++ L := by simp
    rw [e] at hw ⊢
    exact hV i (by omega) _ w hw) hw) hw
 by_cases hE : errF E m = 0
 ·have cM' := fun (b4 b5 b6 : Nat) (w : World) (hw : Rep B0 w0 ((b6, .cells [Value.slice a n cp].toArray 27) :: (b5, .cells (gl p q g h).toArray 26) :: (b4, .cells sdN.toArray 107) :: L) w) => (cM b4 b5 b6 w hw).mono fun e w' hh => hh.elim (fun h => h.2) (fun h => absurd hE h.1)
  replace hE := Held.mk hE
  clear cM hV hm hm'
  go_enter Tryz.func115, Tryz.ntmps115
  go_wp2_with (first | (refine' aAq hR ?_; clear hR; intro blk w hR) | (refine' aZq hR ?_) | (go_at_call 117; refine (cM' _ _ _ _ hR).mono ?_; clear hR; rintro e w ⟨X, rfl, hX, hR⟩))
  go_ret2
  exact .inl ⟨hE.out, X, rfl, hX, hR.weaken (List.Sublist.append (List.Sublist.refl _) (((List.sublist_cons_self _ _).trans (List.sublist_cons_self _ _)).trans (List.sublist_cons_self _ _)))⟩
 ·have cM' := fun (b4 b5 b6 : Nat) (w : World) (hw : Rep B0 w0 ((b6, .cells [Value.slice a n cp].toArray 27) :: (b5, .cells (gl p q g h).toArray 26) :: (b4, .cells sdN.toArray 107) :: L) w) => (cM b4 b5 b6 w hw).mono fun e w' hh => hh.elim (fun h => absurd h.1 hE) (fun h => h.2)
  replace hE := Held.mk hE
  clear cM hV hm hm'
  go_enter Tryz.func115, Tryz.ntmps115
  go_wp2_with (first | (refine' aAq hR ?_; clear hR; intro blk w hR) | (refine' aZq hR ?_) | (go_at_call 117; refine (cM' _ _ _ _ hR).mono ?_; clear hR; rintro e w ⟨rfl, hR⟩))
  go_ret2
  exact .inr ⟨hE.out, rfl, hR.weaken (((List.sublist_cons_self _ _).trans (List.sublist_cons_self _ _)).trans (List.sublist_cons_self _ _))⟩
theorem vals1_S (hq : q < B) {i rv xv : Nat} {er : Int} (hi : i ≤ 1000000) (hx : sOf q (-(i : Int) - 1) = xv) (h1 : (c1, Obj.cells (gl p q g h).toArray 26) ∈ L) (h2 : (c2, Obj.cells [Value.slice a n cp].toArray 27) ∈ L) (h3 : (c3, Obj.cells sdS.toArray 107) ∈ L)
  (cA : ∀ (M : List (Nat × Obj)) (w : World), Rep B0 w0 (M ++ L) w → Calls Tryz.prog 8 #[grp p q g h, .slice a n cp, num xv] w fun e w' => e = .returned (.tuple #[num rv, .int .i64 er]) ∧ Rep B0 w0 (M ++ L) w') (hR : Rep B0 w0 L w) :
  Calls Tryz.prog 189 #[.int .i64 (i : Int), .pointer (some ⟨c1, 0, none⟩), .pointer (some ⟨c2, 0, none⟩), .pointer (some ⟨c3, 0, none⟩)] w fun e w' => e = .returned (.tuple #[num rv, .int .i64 er]) ∧ Rep B0 w0 L w' := by
 have cN := fun w : World => xFo i hi w
 have cS := fun w : World => SO (p := p) (g := g) (h := h) hq (by omega) (by omega) hx w
 have row3 : sdS[1]? = some (.func (.func 190) #[] #[]) := rfl
 go_enter Tryz.func189, Tryz.ntmps189
 go_wp2_with (refine' aBq hR ?_; clear hR; intro blk w hR)
 refine xAd hR [0, 0, 0, 0, 0, 0, 0, 0, 0, 0, 0, 2, 2] [] xBd (by kernel_rfl) rfl rfl (fun K hK => ?_)
 clear hR
 repeat ((first | (refine xAp ?_) | (refine' xAj (by decide) rfl (.inl rfl) rfl ?ha ?_) | (refine' aOq ?ha ?_) | (refine' aXq ?ha ?_) | ((first | refine' xAt (by decide) rfl rfl rfl (fun w => ?hq) ?ha ?_ | refine' xAl (by decide) rfl rfl rfl (fun w => ?hq) ?ha ?_); (case hq => go_simp; try rfl)) | (refine' hd_callV rfl rfl rfl rfl (xAi Tryz.func190 (by kernel_rfl) (by kernel_rfl) _) (fun w => cN w) ?ha ?_) | (refine' xAk rfl rfl rfl (xAi Tryz.func103 (by kernel_rfl) (by kernel_rfl) _) (fun w => cS w) ?ha ?_) | (refine' xEu rfl rfl rfl (xAi Tryz.func8 (by kernel_rfl) (by kernel_rfl) _) (fun w hw => cA [_] w hw) ?ha ?_)); try (case ha => simp only [kP, kQ, kA, kB]; try rfl))
 refine xAo (hK _ _ ?_)
 clear hK K
 refine xAr (fun Q hQ => ?_)
 try simp only [List.nil_append, List.cons_append]
 repeat ((first | refine' xBf rfl (.inr rfl) rfl ?hk ?ha ?_ | (refine' aTq ?hk ?ha ?_)); (case hk => intro p hp; first | exact absurd hp List.not_mem_nil | (obtain rfl := List.mem_singleton.1 hp; repeat (first | exact List.Mem.head _ | with_reducible assumption | apply mC))); (case ha => simp only [kP, kQ, kA, kB]; try rfl))
 refine xAs (fun w hR => hQ _ _ ?_)
 clear hQ Q
 go_wp2_with (fail)
 refine' bodyPost_ret (xAh Tryz.results189 rfl (hR.loadAll (P := Tryz.prog) (ty := 24) (.head _) rfl)) rfl ⟨rfl, hR.weaken (List.sublist_cons_self _ _)⟩
theorem sdbad_S {k : Int} (hno : k < 1 ∨ 3 < k) (hR : Rep B0 w0 L w) :
  Calls Tryz.prog 115 #[.agg sdS.toArray, grp p q g h, .slice a n cp, .int .i64 k] w fun e w' => e = .returned (.tuple #[.slice none 0 0, .int .i64 1]) ∧ Rep B0 w0 L w' := by
 have row0 : sdS[0]? = some (.int .i64 3) := rfl
 by_cases k1 : k < 1
 ·clear hno
  go_enter Tryz.func115, Tryz.ntmps115
  go_wp2_with (refine' aAq hR ?_; clear hR; intro blk w hR)
  go_ret2
  exact ⟨rfl, hR.weaken (((List.sublist_cons_self _ _).trans (List.sublist_cons_self _ _)).trans (List.sublist_cons_self _ _))⟩
 ·have k2 : 3 < k := hno.resolve_left k1
  clear hno
  go_enter Tryz.func115, Tryz.ntmps115
  go_wp2_with (first | (refine' aAq hR ?_; clear hR; intro blk w hR) | (refine' aZq hR ?_))
  go_ret2
  exact ⟨rfl, hR.weaken (((List.sublist_cons_self _ _).trans (List.sublist_cons_self _ _)).trans (List.sublist_cons_self _ _))⟩
theorem sdvals_S (hq : q < B) {m : Nat} (hm : 1 ≤ m) (hm' : m ≤ 3) {V : Nat → Nat} {E : Nat → Int} (hV : ∀ i : Nat, i < 3 → ∀ (M : List (Nat × Obj)) (w : World), Rep B0 w0 (M ++ L) w → Calls Tryz.prog 8 #[grp p q g h, .slice a n cp, num (sOf q (-(i : Int) - 1))] w fun e w' => e = .returned (.tuple #[num (V i), .int .i64 (E i)]) ∧ Rep B0 w0 (M ++ L) w') (hR : Rep B0 w0 L w) :
  Calls Tryz.prog 115 #[.agg sdS.toArray, grp p q g h, .slice a n cp, .int .i64 (m : Int)] w fun e w' =>
   (errF E m = 0 ∧ ∃ x : GrN, e = .returned (.tuple #[.slice x.a m x.cap, .int .i64 0]) ∧ xCc x m V ∧ Rep B0 w0 (x.bl ++ L) w') ∨
   (errF E m ≠ 0 ∧ e = .returned (.tuple #[.slice none 0 0, .int .i64 (errF E m)]) ∧ Rep B0 w0 L w') := by
 have row0 : sdS[0]? = some (.int .i64 3) := rfl
 have k1 : ¬ (m : Int) < 1 := by omega
 have k2 : ¬ (3 : Int) < (m : Int) := by omega
 have hmf : ∀ (fn : Fn) (first cap : Array Value) (w : World), (Instr.makeFunc fn first cap).run Tryz.prog w = .ok (.func fn first cap) w := fun _ _ _ _ => rfl
 have cM := fun (b4 b5 b6 : Nat) (w : World) (hw : Rep B0 w0 ((b6, .cells [Value.slice a n cp].toArray 27) :: (b5, .cells (gl p q g h).toArray 26) :: (b4, .cells sdS.toArray 107) :: L) w) =>
  made_V (n := m) (p1 := b5) (p2 := b6) (p3 := b4) (V := V) (E := E) (by omega) (fun i hi M w hw => vals1_S hq (by omega) rfl (List.mem_append_right _ (.tail _ (.head _))) (List.mem_append_right _ (.head _)) (List.mem_append_right _ (.tail _ (.tail _ (.head _))))
   (fun N w hw => by
    have e : N ++ (M ++ ((b6, Obj.cells [Value.slice a n cp].toArray 27) :: (b5, .cells (gl p q g h).toArray 26) :: (b4, .cells sdS.toArray 107) :: L)) = (N ++ M ++ [(b6, Obj.cells [Value.slice a n cp].toArray 27), (b5, .cells (gl p q g h).toArray 26), (b4, .cells sdS.toArray 107)]) ++ L := by simp
    rw [e] at hw ⊢
    exact hV i (by omega) _ w hw) hw) hw
 by_cases hE : errF E m = 0
 ·have cM' := fun (b4 b5 b6 : Nat) (w : World) (hw : Rep B0 w0 ((b6, .cells [Value.slice a n cp].toArray 27) :: (b5, .cells (gl p q g h).toArray 26) :: (b4, .cells sdS.toArray 107) :: L) w) => (cM b4 b5 b6 w hw).mono fun e w' hh => hh.elim (fun h => h.2) (fun h => absurd hE h.1)
  replace hE := Held.mk hE
  clear cM hV hm hm'
  go_enter Tryz.func115, Tryz.ntmps115
  go_wp2_with (first | (refine' aAq hR ?_; clear hR; intro blk w hR) | (refine' aZq hR ?_) | (go_at_call 117; refine (cM' _ _ _ _ hR).mono ?_; clear hR; rintro e w ⟨X, rfl, hX, hR⟩))
  go_ret2
  exact .inl ⟨hE.out, X, rfl, hX, hR.weaken (List.Sublist.append (List.Sublist.refl _) (((List.sublist_cons_self _ _).trans (List.sublist_cons_self _ _)).trans (List.sublist_cons_self _ _)))⟩
 ·have cM' := fun (b4 b5 b6 : Nat) (w : World) (hw : Rep B0 w0 ((b6, .cells [Value.slice a n cp].toArray 27) :: (b5, .cells (gl p q g h).toArray 26) :: (b4, .cells sdS.toArray 107) :: L) w) => (cM b4 b5 b6 w hw).mono fun e w' hh => hh.elim (fun h => absurd h.1 hE) (fun h => h.2)
  replace hE := Held.mk hE
  clear cM hV hm hm'
  go_enter Tryz.func115, Tryz.ntmps115
  go_wp2_with (first | (refine' aAq hR ?_; clear hR; intro blk w hR) | (refine' aZq hR ?_) | (go_at_call 117; refine (cM' _ _ _ _ hR).mono ?_; clear hR; rintro e w ⟨rfl, hR⟩))
  go_ret2
  exact .inr ⟨hE.out, rfl, hR.weaken (((List.sublist_cons_self _ _).trans (List.sublist_cons_self _ _)).trans (List.sublist_cons_self _ _))⟩
end
end Go.Proofs.YtaaahfjpnggkbaaGreatDoor
