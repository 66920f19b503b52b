import Derived.Test.YtaaahfjpnggkbaaGreatDoorHShSide
import Derived.Test.YtaaahfjpnggkbaaGreatDoorHXI
import Derived.Test.YtaaahfjpnggkbaaGreatDoorHN
import Derived.Test.YtaaahfjpnggkbaaGreatDoorHR
import Derived.Test.YtaaahfjpnggkbaaGreatDoorHI
set_option linter.unusedSimpArgs false
set_option linter.unusedVariables false
set_option maxRecDepth 100000
set_option maxHeartbeats 20000000
namespace Go.Proofs.YtaaahfjpnggkbaaGreatDoor
open Go.RowKit
section
attribute [local irreducible] Calls Instr.build Instr.buildSlice Instr.makeSlice
instance cellIntsR : xDp Tryz.prog 67 := .mk' (by kernel_rfl) (by kernel_rfl)
def shBad (A : Nat → Int) (i : Nat) : Prop := A i < 0 ∨ 7 ≤ A i ∨ ∃ j, j < i ∧ A j = A i
noncomputable def shE1 (p : Nat) (A : Nat → Int) (Pw : Nat → Nat) (i : Nat) : Int := by classical exact if shBad A i then 1 else if mayG p (Pw i) then 0 else 1
noncomputable def shV1 (q : Nat) (A : Nat → Int) (i : Nat) : Nat := by classical exact if shBad A i then 0 else sOf q (A i + 1)
theorem xHc {p : Nat} {A : Nat → Int} {Pw : Nat → Nat} {i : Nat} (h : shBad A i) : shE1 p A Pw i = 1 := by unfold shE1; rw [if_pos h]
theorem shV1_bad {q : Nat} {A : Nat → Int} {i : Nat} (h : shBad A i) : shV1 q A i = 0 := by unfold shV1; rw [if_pos h]
theorem xHv {p : Nat} {A : Nat → Int} {Pw : Nat → Nat} {i : Nat} (h : ¬ shBad A i) : shE1 p A Pw i = (by classical exact if mayG p (Pw i) then 0 else 1) := by unfold shE1; rw [if_neg h]
theorem xHp {q : Nat} {A : Nat → Int} {i : Nat} (h : ¬ shBad A i) : shV1 q A i = sOf q (A i + 1) := by unfold shV1; rw [if_neg h]
theorem xFf (w : World) : (Instr.build 24 #[]).run Tryz.prog w = .ok (num 0) w := by
 show _ = Result.ok (Value.agg (nl 0).toArray) w
 rw [← xDf]
 kernel_rfl
theorem field_sdN (w : World) : (Instr.field 107 (.agg sdN.toArray) 1).run Tryz.prog w = .ok (.func (.func 188) #[] #[]) w := by kernel_rfl
theorem field_sdS (w : World) : (Instr.field 107 (.agg sdS.toArray) 1).run Tryz.prog w = .ok (.func (.func 190) #[] #[]) w := by kernel_rfl
theorem xEc {P : Program} {ops : Array Oper} {rest : List Oper} {o : Oper} {a : Act} {w : World} {Q : Exit → Act → World → Prop} (hg : o.guard = none) {t : TypeId} (hop : o.op = .build t #[]) {v : Value}
  (hrun : ∀ w, (Instr.build t #[]).run P w = .ok v w) (h : wpList P ops Q rest (a.put o.dst v) w) : wpList P ops Q (o :: rest) a w :=
 wpList_plain hg fun _ hK => by
  unfold Oper.wp execOp
  simp only [hop, List.map_toArray, List.map_nil, hrun, Sem.run_bind, Result.andThen_ok, Sem.run_pure]
  exact hK _ _ h
theorem hd_loadKK {ops : Array Oper} {B0 : Nat} {w0 : World} {Kp : List (Nat × Obj)} {C : World → Prop} {ts : List Nat} {r acc : List Oper} {o : Oper} {a : Act} {K : List Oper → Act → Prop} (hw : Region.wanted o (yielded ops a.tmps) = true) {ty : TypeId} {x : Operand} (hop : o.op = .load ty x) {ad : Addr} (hx : a.eval x = .pointer (some ad)) {v : Value}
  (hrun : ∀ L w, (∀ p, p ∈ Kp → p ∈ L) → Rep B0 w0 L w → (loadVar ty ad).run Tryz.prog w = .ok v w) {a' : Act} (ha : a.put o.dst v = a') (h : xBn Tryz.prog ops (xDa B0 w0 Kp) C K ts r acc a') : xBn Tryz.prog ops (xDa B0 w0 Kp) C K (1 :: ts) (o :: r) acc a :=
 xJa hw (fun L w hL hR => by
  unfold execOp
  simp only [hop, hx, Instr.loadAt, Instr.sureAddr, Sem.run_bind, Sem.run_pure, Result.andThen_ok, hrun L w hL hR]
  exact ⟨rfl, hR⟩) ha h
theorem Rep.sub {B0 : Nat} {w0 w w' : World} {L L' : List (Nat × Obj)} (h0 : Rep B0 w0 L w') (hs : ∀ p, p ∈ L → p ∈ L') (h : Rep B0 w0 L' w) : Rep B0 w0 L w := ⟨h.below, h.le, fun p hp => h.own p (hs p hp), h0.uniq⟩
section
variable {p q g h : Nat} {B0 : Nat} {w0 w : World} {L : List (Nat × Obj)} {c1 c2 c3 n ca cq : Nat} {aa pa : Option Addr} {A : Nat → Int} {Pw : Nat → Nat}
theorem cut_ints {bv ov k : Nat} (hA : IAt B0 w0 L (some ⟨bv, ov, none⟩) n ca A) (hk : k < n) (w : World) : (Instr.sliceAt 67 (.slice (some ⟨bv, ov, none⟩) n ca) none (some (.int .i64 (k : Int))) none).run Tryz.prog w = .ok (.slice (some ⟨bv, ov, none⟩) k ca) w := by
 have h0 := hA.lec
 have h1 := hA.big
 unfold maxLen at h1
 have g0 : 0 ≤ (k : Int) := by omega
 have g1 : (k : Int) ≤ (ca : Int) := by omega
 have g2 : ¬ ca = 0 := by omega
 go_simp
theorem raise1_any (hp : p < B) (hq : q < B) {i : Nat} (hi : i < n) (hn : n ≤ 1000) (hA : IAt B0 w0 L aa n ca A) (hP : NAt B0 w0 L pa n cq Pw) (h1 : (c1, Obj.cells [Value.slice aa n ca].toArray 67) ∈ L) (h2 : (c2, Obj.cells (gl p q g h).toArray 26) ∈ L) (h3 : (c3, Obj.cells [Value.slice pa n cq].toArray 27) ∈ L) (hR : Rep B0 w0 L w) :
  Calls Tryz.prog 118 #[.int .i64 (i : Int), .pointer (some ⟨c1, 0, none⟩), .pointer (some ⟨c2, 0, none⟩), .pointer (some ⟨c3, 0, none⟩)] w fun e w' => e = .returned (.tuple #[num (shV1 q A i), .int .i64 (shE1 p A Pw i)]) ∧ Rep B0 w0 L w' := by
 classical
 have g0 : 0 ≤ (i : Int) := by omega
 have g1 : (i : Int) < (n : Int) := by omega
 obtain ⟨bb, off, rfl, hx⟩ := hA.at' (by omega)
 have ld := fun (M : List (Nat × Obj)) (w : World) (hw : Rep B0 w0 (M ++ L) w) => xDu (hx w (hw.weaken (List.sublist_append_right _ _)) i hi)
 by_cases hbad : shBad A i
 ·rw [xHc hbad, shV1_bad hbad]
  by_cases k1 : A i < 0
  ·generalize A i = ai at *
   clear hA hP hx hbad h2 h3
   go_enter Tryz.func118, Tryz.ntmps118
   go_wp2_with (refine' aBq hR ?_; clear hR; intro blk w hR)
   refine xAd hR [0, 0, 0, 0, 0, 0, 0, 0, 0, 0, 0, 0, 0, 0, 0, 0, 0, 0, 0, 0, 0, 0] [] xBd (by kernel_rfl) rfl rfl (fun K hK => ?_)
   clear hR
   repeat ((first | (refine' xAj (by decide) rfl (.inl rfl) rfl ?ha ?_) | (refine' aXq ?ha ?_) | ((first | refine' xAg (by decide) rfl rfl rfl rfl (fun w => ?hq) ?ha ?_ | refine' xAm (by decide) rfl rfl rfl rfl (fun w => ?hq) ?ha ?_); (case hq => go_simp; try rfl)) | (refine' xBh (by decide) rfl rfl rfl rfl ?ha ?_) | (refine' xCe (by decide) rfl ?ha ?_) | (refine' xAn rfl rfl rfl (fun w hw => ld [_] w hw) ?ha ?_)); try (case ha => simp only [kP, kQ, kA, kB]; try rfl))
   refine xAo (hK _ _ ?_)
   clear hK K
   refine xAr (fun Q hQ => ?_)
   try simp only [List.nil_append, List.cons_append]
   repeat ((fail); (case hk => intro p hp; first | exact absurd hp List.not_mem_nil | (obtain rfl := List.mem_singleton.1 hp; repeat (first | exact List.Mem.head _ | with_reducible assumption | apply mC))); (case ha => simp only [kP, kQ, kA, kB]; try rfl))
   refine xAs (fun w hR => hQ _ _ ?_)
   clear hQ Q
   go_wp2_with (first | (refine' aRq hR ?_; clear hR; intro w hR) | (refine' xEc rfl rfl xFf ?_))
   refine' bodyPost_ret (xAh Tryz.results118 rfl (hR.loadAll (P := Tryz.prog) (ty := 24) (.head _) rfl)) rfl ⟨rfl, hR.weaken (List.sublist_cons_self _ _)⟩
  ·by_cases k2 : 7 ≤ A i
   ·have d1 : decide (A i < 0) = false := decide_eq_false k1
    have d2 : decide (7 ≤ A i) = true := decide_eq_true k2
    generalize A i = ai at *
    clear hA hP hx hbad h2 h3
    go_enter Tryz.func118, Tryz.ntmps118
    go_wp2_with (refine' aBq hR ?_; clear hR; intro blk w hR)
    refine xAd hR [0, 0, 0, 0, 0, 0, 0, 0, 0, 0, 0, 0, 0, 0, 0, 0, 0, 0, 0, 0, 0, 0] [] xBd (by kernel_rfl) rfl rfl (fun K hK => ?_)
    clear hR
    repeat ((first | (refine' xAj (by decide) rfl (.inl rfl) rfl ?ha ?_) | (refine' aXq ?ha ?_) | ((first | refine' xAg (by decide) rfl rfl rfl rfl (fun w => ?hq) ?ha ?_ | refine' xAm (by decide) rfl rfl rfl rfl (fun w => ?hq) ?ha ?_); (case hq => go_simp; try rfl)) | (refine' xBh (by decide) rfl rfl rfl rfl ?ha ?_) | (refine' xCe (by decide) rfl ?ha ?_) | (refine' xAn rfl rfl rfl (fun w hw => ld [_] w hw) ?ha ?_)); try (case ha => simp only [kP, kQ, kA, kB]; try rfl))
    refine xAo (hK _ _ ?_)
    clear hK K
    refine xAr (fun Q hQ => ?_)
    try simp only [List.nil_append, List.cons_append]
    repeat ((fail); (case hk => intro p hp; first | exact absurd hp List.not_mem_nil | (obtain rfl := List.mem_singleton.1 hp; repeat (first | exact List.Mem.head _ | with_reducible assumption | apply mC))); (case ha => simp only [kP, kQ, kA, kB]; try rfl))
    refine xAs (fun w hR => hQ _ _ ?_)
    clear hQ Q
    go_wp2_with (first | (refine' aRq hR ?_; clear hR; intro w hR) | (refine' xEc rfl rfl xFf ?_))
    refine' bodyPost_ret (xAh Tryz.results118 rfl (hR.loadAll (P := Tryz.prog) (ty := 24) (.head _) rfl)) rfl ⟨rfl, hR.weaken (List.sublist_cons_self _ _)⟩
   ·have k3 : ∃ j, j < i ∧ A j = A i := (hbad.resolve_left k1).resolve_left k2
    have cC := fun (M : List (Nat × Obj)) (w : World) (hw : Rep B0 w0 (M ++ L) w) => xJc ((hA.take (Nat.le_of_lt hi)).mono fun w hw => hw.weaken (List.sublist_append_right M _)) (by omega) (A i) true ⟨fun _ => k3, fun _ => rfl⟩ hw
    have cl := cut_ints hA hi
    have d1 : decide (A i < 0) = false := decide_eq_false k1
    have d2 : decide (7 ≤ A i) = false := decide_eq_false k2
    generalize A i = ai at *
    clear hA hP hx hbad h2 h3 k3
    go_enter Tryz.func118, Tryz.ntmps118
    go_wp2_with (refine' aBq hR ?_; clear hR; intro blk w hR)
    refine xAd hR [0, 0, 0, 0, 0, 0, 0, 0, 0, 0, 0, 0, 0, 0, 0, 0, 0, 0, 0, 0, 0, 0] [] xBd (by kernel_rfl) rfl rfl (fun K hK => ?_)
    clear hR
    repeat ((first | (refine' xCq (by decide) rfl rfl rfl rfl rfl rfl cl ?ha ?_) | (refine' xAj (by decide) rfl (.inl rfl) rfl ?ha ?_) | (refine' aXq ?ha ?_) | ((first | refine' xAg (by decide) rfl rfl rfl rfl (fun w => ?hq) ?ha ?_ | refine' xAm (by decide) rfl rfl rfl rfl (fun w => ?hq) ?ha ?_); (case hq => go_simp; try rfl)) | (refine' xBh (by decide) rfl rfl rfl rfl ?ha ?_) | (refine' xAn rfl rfl rfl (fun w hw => ld [_] w hw) ?ha ?_) | (refine' xEu rfl rfl rfl (xAi Tryz.func119 (by kernel_rfl) (by kernel_rfl) _) (fun w hw => cC [_] w hw) ?ha ?_)); try (case ha => simp only [kP, kQ, kA, kB]; try rfl))
    refine xAo (hK _ _ ?_)
    clear hK K
    refine xAr (fun Q hQ => ?_)
    try simp only [List.nil_append, List.cons_append]
    repeat ((fail); (case hk => intro p hp; first | exact absurd hp List.not_mem_nil | (obtain rfl := List.mem_singleton.1 hp; repeat (first | exact List.Mem.head _ | with_reducible assumption | apply mC))); (case ha => simp only [kP, kQ, kA, kB]; try rfl))
    refine xAs (fun w hR => hQ _ _ ?_)
    clear hQ Q
    go_wp2_with (first | (refine' aRq hR ?_; clear hR; intro w hR) | (refine' xEc rfl rfl xFf ?_))
    refine' bodyPost_ret (xAh Tryz.results118 rfl (hR.loadAll (P := Tryz.prog) (ty := 24) (.head _) rfl)) rfl ⟨rfl, hR.weaken (List.sublist_cons_self _ _)⟩
 ·rw [xHv hbad, xHp hbad]
  have k1 : ¬ A i < 0 := fun h => hbad (.inl h)
  have k2 : ¬ 7 ≤ A i := fun h => hbad (.inr (.inl h))
  have k3 : ¬ ∃ j, j < i ∧ A j = A i := fun h => hbad (.inr (.inr h))
  have cC := fun (M : List (Nat × Obj)) (w : World) (hw : Rep B0 w0 (M ++ L) w) => xJc ((hA.take (Nat.le_of_lt hi)).mono fun w hw => hw.weaken (List.sublist_append_right M _)) (by omega) (A i) false ⟨fun h => (nomatch h), fun h => absurd h k3⟩ hw
  have cl := cut_ints hA hi
  obtain ⟨b2, off2, rfl, hy⟩ := hP.at' (by omega)
  have hL0 := hR
  have ldp := fun (L' : List (Nat × Obj)) (w : World) (hs : ∀ p, p ∈ L → p ∈ L') (hw : Rep B0 w0 L' w) => xBc (hy w (hL0.sub hs hw) i hi)
  have lp := hP.lt i hi
  obtain ⟨pw, hpw⟩ : ∃ x, Pw i = x := ⟨_, rfl⟩
  rw [hpw] at ldp lp ⊢
  obtain ⟨z0, hz0⟩ : ∃ x, x = 0 := ⟨_, rfl⟩
  have bz : ∀ w : World, (Instr.build 24 #[]).run Tryz.prog w = .ok (num z0) w := by rw [hz0]; exact xFf
  obtain ⟨e1, he1⟩ : ∃ e, (if mayG p pw then (0 : Int) else 1) = e := ⟨_, rfl⟩
  rw [he1]
  obtain ⟨r1, hr1⟩ : ∃ r, (if mayG p pw then powN pw z0 p else 0) = r := ⟨_, rfl⟩
  have cE := fun w : World => gexp_lit (q := q) (g := g) (h := h) hp lp (by rw [hz0]; exact xEy) hr1 he1 w
  obtain ⟨m, hm⟩ : ∃ m : Nat, A i = (m : Int) := ⟨(A i).toNat, by omega⟩
  rw [hm] at k1 k2 cC ld ⊢
  have d1 : decide ((m : Int) < 0) = false := decide_eq_false k1
  have d2 : decide (7 ≤ (m : Int)) = false := decide_eq_false k2
  have cN := fun w : World => xJy m (by omega) w
  obtain ⟨sv, hsv⟩ : ∃ x, sOf q ((m : Int) + 1) = x := ⟨_, rfl⟩
  rw [hsv]
  have cS := fun w : World => SO (p := p) (g := g) (h := h) hq (by omega) (by omega) hsv w
  clear hA hP hx hbad k3 hpw hz0 he1 hr1 hm hsv lp hy
  go_enter Tryz.func118, Tryz.ntmps118
  go_wp2_with (refine' aBq hR ?_; clear hR; intro blk w hR)
  refine xAd hR [0, 0, 0, 0, 0, 0, 0, 0, 0, 0, 0, 0, 0, 0, 0, 0, 0, 0, 0, 0, 0, 0] [] xBd (by kernel_rfl) rfl rfl (fun K hK => ?_)
  clear hR
  repeat ((first | (refine' xCq (by decide) rfl rfl rfl rfl rfl rfl cl ?ha ?_) | (refine' xAj (by decide) rfl (.inl rfl) rfl ?ha ?_) | (refine' aXq ?ha ?_) | ((first | refine' xAg (by decide) rfl rfl rfl rfl (fun w => ?hq) ?ha ?_ | refine' xAm (by decide) rfl rfl rfl rfl (fun w => ?hq) ?ha ?_); (case hq => go_simp; try rfl)) | (refine' xBh (by decide) rfl rfl rfl rfl ?ha ?_) | (refine' xAn rfl rfl rfl (fun w hw => ld [_] w hw) ?ha ?_) | (refine' xEu rfl rfl rfl (xAi Tryz.func119 (by kernel_rfl) (by kernel_rfl) _) (fun w hw => cC [_] w hw) ?ha ?_)); try (case ha => simp only [kP, kQ, kA, kB]; try rfl))
  refine xAo (hK _ _ ?_)
  clear hK K
  refine xAr (fun Q hQ => ?_)
  try simp only [List.nil_append, List.cons_append]
  repeat ((fail); (case hk => intro p hp; first | exact absurd hp List.not_mem_nil | (obtain rfl := List.mem_singleton.1 hp; repeat (first | exact List.Mem.head _ | with_reducible assumption | apply mC))); (case ha => simp only [kP, kQ, kA, kB]; try rfl))
  refine xAs (fun w hR => hQ _ _ ?_)
  clear hQ Q
  go_wp2_with (fail)
  rename_i K5 k5
  try simp only [Act.put, kA, kB, List.setIfInBounds_toArray]
  refine xBl hR 13 xBd rfl ?_
  clear hR
  refine xCo L [1, 1, 1, 1, 1, 1, 1, 1, 1, 1, 2, 2, 2] 3 rfl (fun p hp => absurd hp List.not_mem_nil) (fun p hp => .tail _ hp) rfl (by decide +kernel) (fun K hK => ?_)
  repeat ((first | (refine' xBu rfl rfl rfl inferInstance ?hm ?hn ?ha ?_; (case hm => exact h2); (case hn => rfl)) | (refine' xCr (by decide) rfl rfl (fun w => ?hq) ?ha ?_; (case hq => simp only [List.map_toArray, List.map_cons, List.map_nil]; exact bz _)) | (refine xAp ?_) | (refine' xAj (by decide) rfl (.inl rfl) rfl ?ha ?_) | (refine' aAr ?ha ?_) | ((first | refine' xAg (by decide) rfl rfl rfl rfl (fun w => ?hq) ?ha ?_ | refine' xAt (by decide) rfl rfl rfl (fun w => ?hq) ?ha ?_); (case hq => go_simp; try rfl)) | (refine' hd_loadKK rfl rfl rfl (fun L' w hs hw => ldp L' w hs hw) ?ha ?_) | (refine' xBk rfl rfl rfl (xAi Tryz.func110 (by kernel_rfl) (by kernel_rfl) _) (fun w => cE w) ?ha ?_)); try (case ha => simp only [kP, kQ, kA, kB]; try rfl))
  refine xAo (hK _ _ ?_)
  clear hK K
  try simp only [Act.put, kA, kB, List.setIfInBounds_toArray]
  refine f_at [10] (by decide +kernel) rfl ?_
  refine f_is 10 ?_
  refine f_new rfl rfl (xIp rfl rfl) (fun p hp => .tail _ hp) (fun c' => ?_) xCl
  simp only [Act.put, kA, kB, List.setIfInBounds_toArray]
  refine f_at [11] (by decide +kernel) rfl ?_
  refine f_is 11 ?_
  refine' f_s rfl rfl (xEh (l := [.int .u64 0, .int .u64 0, .int .u64 0, .int .u64 0]) rfl rfl rfl inferInstance rfl rfl rfl rfl ?hs) ?hk ?_ xCl
  (case hs => repeat (first | exact xBq.head | with_reducible assumption | apply xBq.tail))
  (case hk => exact fun p hp => .tail _ (.tail _ hp))
  refine f_at [12] (by decide +kernel) rfl ?_
  refine f_is 12 ?_
  refine f_y rfl rfl (xAy rfl (.inl rfl) rfl) (fun p hp => .tail _ (.tail _ hp)) ?_ xCl
  simp only [Act.put, kA, kB, List.setIfInBounds_toArray]
  refine f_end (by decide +kernel) (fun w hR => ?_)
  simp only [Exit.then, Exit.inBlock]
  refine k5 _ _ ?_
  clear k5 K5 cE ldp cC cl
  go_wp2_with (fail)
  refine xAd hR [0, 0, 0, 0, 0, 0, 0, 0, 0, 1, 2, 2] [] xBd (by kernel_rfl) rfl rfl (fun K hK => ?_)
  clear hR
  repeat ((first | (refine' xDi (by decide) rfl rfl rfl field_sdN ?ha ?_) | (refine' hd_callV rfl rfl rfl rfl (xAi Tryz.func188 (by kernel_rfl) (by kernel_rfl) _) (fun w => cN w) ?ha ?_) | (refine xAp ?_) | (refine' xAj (by decide) rfl (.inl rfl) rfl ?ha ?_) | (refine' aOq ?ha ?_) | (refine' aXq ?ha ?_) | ((refine' xAg (by decide) rfl rfl rfl rfl (fun w => ?hq) ?ha ?_); (case hq => go_simp; try rfl)) | (refine' xAn rfl rfl rfl (fun w hw => ld [_, _] w hw) ?ha ?_) | (refine' xAk rfl rfl rfl (xAi Tryz.func114 (by kernel_rfl) (by kernel_rfl) _) (fun w => nodes_any w) ?ha ?_) | (refine' xAk rfl rfl rfl (xAi Tryz.func103 (by kernel_rfl) (by kernel_rfl) _) (fun w => cS w) ?ha ?_)); try (case ha => simp only [kP, kQ, kA, kB]; try rfl))
  refine xAo (hK _ _ ?_)
  clear hK K
  refine xAr (fun Q hQ => ?_)
  try simp only [List.nil_append, List.cons_append]
  repeat ((first | refine' xBf rfl (.inr rfl) rfl ?hk ?ha ?_ | (refine' aTq ?hk ?ha ?_)); (case hk => intro p hp; first | exact absurd hp List.not_mem_nil | (obtain rfl := List.mem_singleton.1 hp; repeat (first | exact List.Mem.head _ | with_reducible assumption | apply mC))); (case ha => simp only [kP, kQ, kA, kB]; try rfl))
  refine xAs (fun w hR => hQ _ _ ?_)
  clear hQ Q
  go_wp2_with (fail)
  refine' bodyPost_ret (xAh Tryz.results118 rfl (hR.loadAll (P := Tryz.prog) (ty := 24) (.tail _ (.head _)) rfl)) rfl ⟨rfl, hR.weaken ((List.sublist_cons_self _ _).trans (List.sublist_cons_self _ _))⟩
end
end
section
attribute [local irreducible] Calls Instr.build Instr.buildSlice Instr.makeSlice
section
variable {P : Program} {ops : Array Oper} {B0 : Nat} {w0 : World} {Kp : List (Nat × Obj)} {ts : List Nat} {r acc : List Oper} {o : Oper} {a : Act} {K : List Oper → Act → Prop} {C : World → Prop}
theorem hd_callVI (hw : Region.wanted o (yielded ops a.tmps) = true) {f : FuncId} {x : Operand} {xs : List Operand} {us : Array TypeId} (hop : o.op = .call { callee := .value x, args := xs.toArray, argTypes := us }) (hv : a.eval x = .func (.func f) #[] #[]) {vs : List Value} {v : Value} (hx' : evL a xs = some vs)
  (hent : ∀ w, (callFunc f vs.toArray).run P w = .ok (.enter f vs.toArray) w) (hq : ∀ w, Calls P f vs.toArray w fun e w' => e = .returned v ∧ Below w.heap.size w w')
  {a' : Act} (ha : a.put o.dst v = a') (h : xBn P ops (xDa B0 w0 Kp) C K ts r acc a') : xBn P ops (xDa B0 w0 Kp) C K (1 :: ts) (o :: r) acc a :=
 xJa hw (fun L w hL hR => by
  have e : (execOp a.eval o).run P w = .ok (.enter f vs.toArray) w := by
   have hx := xCy hx'
   unfold execOp
   simp only [hop, resolve, hv, Deferred.ofValue, Sem.run_bind, Sem.run_pure, Result.andThen_ok, hx]
   have := hent w
   simpa [invoke] using this
  rw [e]
  exact (hq w).mono fun e w' ⟨he, hb⟩ => ⟨he, hR.call hb⟩) ha h
end
section
variable {p q g h : Nat} {B0 : Nat} {w0 w : World} {L : List (Nat × Obj)} {c1 c2 c3 n k cx cq : Nat} {xa pa : Option Addr} {F : Nat → Nat} {er : Int}
theorem raise2_no (hq : q < B) {i xs : Nat} (hi : i ≤ 1000000) (hx : sOf q (-(i : Int) - 1) = xs) (hE : er ≠ 0)
  (hW : ∀ (M : List (Nat × Obj)) (w : World), Rep B0 w0 (M ++ L) w → Calls Tryz.prog 9 #[grp p q g h, .slice xa n cx, num xs] w fun e w' => ∃ X : GrN, e = .returned (.tuple #[.slice X.a k X.cap, .int .i64 er]) ∧ xCc X k F ∧ Rep B0 w0 (X.bl ++ (M ++ L)) w')
  (h1 : (c1, Obj.cells (gl p q g h).toArray 26) ∈ L) (h2 : (c2, Obj.cells [Value.slice xa n cx].toArray 27) ∈ L) (h3 : (c3, Obj.cells [Value.slice pa n cq].toArray 27) ∈ L) (hR : Rep B0 w0 L w) :
  Calls Tryz.prog 120 #[.int .i64 (i : Int), .pointer (some ⟨c1, 0, none⟩), .pointer (some ⟨c2, 0, none⟩), .pointer (some ⟨c3, 0, none⟩)] w fun e w' => e = .returned (.tuple #[num 0, .int .i64 er]) ∧ Rep B0 w0 L w' := by
 have cN := fun w : World => xFo i hi w
 have cS := fun w : World => SO (p := p) (g := g) (h := h) hq (by omega) (by omega) hx w
 have cW := fun (b : Nat) (l : List Value) (w : World) (hw : Rep B0 w0 ((b, .cells l.toArray 24) :: L) w) => hW [(b, .cells l.toArray 24)] w hw
 have c1 : (er == 0) = false := by simp; exact hE
 have c2 : (er != 0) = true := by simp; exact hE
 clear hW hx
 go_enter Tryz.func120, Tryz.ntmps120
 go_wp2_with (refine' aBq hR ?_; clear hR; intro blk w hR)
 rename_i K5 k5
 try simp only [Act.put, kA, kB, List.setIfInBounds_toArray]
 refine xBl hR 14 xBd rfl ?_
 clear hR
 refine xCo L [1, 1, 1, 1, 1, 1, 1, 1, 2, 2, 2, 2, 2, 2] 6 rfl (fun p hp => absurd hp List.not_mem_nil) (fun p hp => .tail _ hp) rfl (by decide +kernel) (fun K hK => ?_)
 repeat ((first | (refine' xBu rfl rfl rfl inferInstance ?hm ?hn ?ha ?_; (case hm => exact h1); (case hn => rfl)) | (refine' xDi (by decide) rfl rfl rfl field_sdS ?ha ?_) | (refine' hd_callVI rfl rfl rfl rfl (xAi Tryz.func190 (by kernel_rfl) (by kernel_rfl) _) (fun w => cN w) ?ha ?_) | (refine xAp ?_) | (refine' xAj (by decide) rfl (.inl rfl) rfl ?ha ?_) | (refine' aAr ?ha ?_) | (refine' xBk rfl rfl rfl (xAi Tryz.func116 (by kernel_rfl) (by kernel_rfl) _) (fun w => xGt w) ?ha ?_) | (refine' xBk rfl rfl rfl (xAi Tryz.func103 (by kernel_rfl) (by kernel_rfl) _) (fun w => cS w) ?ha ?_)); try (case ha => simp only [kP, kQ, kA, kB]; try rfl))
 refine xAo (hK _ _ ?_)
 clear hK K
 try simp only [Act.put, kA, kB, List.setIfInBounds_toArray]
 refine f_at [8] (by decide +kernel) rfl ?_
 refine f_is 8 ?_
 refine f_call (fun v M => ∃ X : GrN, v = .tuple #[.slice X.a k X.cap, .int .i64 er] ∧ xCc X k F ∧ M = (blk, .cells [.int .u64 0, .int .u64 0, .int .u64 0, .int .u64 0].toArray 24) :: (X.bl ++ L)) rfl rfl rfl rfl rfl (xAi Tryz.func9 (by kernel_rfl) (by kernel_rfl) _) (fun w hw => (cW _ _ w hw).mono fun e w' ⟨X, h1, h2, h3⟩ => ⟨_, h1, _, ⟨X, rfl, h2, rfl⟩, h3.permN List.perm_middle⟩) ?_ xCl
 rintro v M ⟨X, rfl, hX, rfl⟩
 refine ⟨fun p hp => .tail _ (List.mem_append_right _ hp), ?_⟩
 simp only [Act.put, kA, kB, List.setIfInBounds_toArray]
 refine f_at [9] (by decide +kernel) rfl ?_
 refine f_is 9 ?_
 refine f_y rfl rfl (xAy rfl (.inr rfl) rfl) (fun p hp => .tail _ (List.mem_append_right _ hp)) ?_ xCl
 simp only [Act.put, kA, kB, List.setIfInBounds_toArray]
 refine xCo L [2, 2, 2, 2, 2, 2, 2, 2, 2, 2, 1, 1, 2, 2] 2 rfl (fun p hp => hp) (fun p hp => .tail _ (List.mem_append_right _ hp)) rfl (by decide +kernel) (fun K hK => ?_)
 repeat ((first | (refine xAp ?_) | ((refine' xAt (by decide) rfl rfl rfl (fun w => ?hq) ?ha ?_); (case hq => go_simp; try rfl))); try (case ha => simp only [kP, kQ, kA, kB]; try rfl))
 refine xAo (hK _ _ ?_)
 clear hK K
 try simp only [Act.put, kA, kB, List.setIfInBounds_toArray]
 refine f_at [12] (by decide +kernel) rfl ?_
 refine f_is 12 ?_
 refine f_y rfl rfl (xAy rfl (.inl rfl) rfl) (fun p hp => .tail _ (List.mem_append_right _ hp)) ?_ xCl
 simp only [Act.put, kA, kB, List.setIfInBounds_toArray]
 refine f_at [13] (by decide +kernel) rfl ?_
 refine f_is 13 ?_
 refine f_y rfl rfl (xAy rfl (.inl rfl) rfl) (fun p hp => .tail _ (List.mem_append_right _ hp)) ?_ xCl
 simp only [Act.put, kA, kB, List.setIfInBounds_toArray]
 refine f_end (by decide +kernel) (fun w hR => ?_)
 simp only [Exit.then, Exit.inBlock]
 refine k5 _ _ ?_
 clear k5 K5 cW cN cS
 go_wp2_with (first | (refine' aRq hR ?_; clear hR; intro w hR) | (refine' xEc rfl rfl xFf ?_))
 refine' bodyPost_ret (xAh Tryz.results120 rfl (hR.loadAll (P := Tryz.prog) (ty := 24) (.head _) rfl)) rfl ⟨rfl, hR.weaken ((List.sublist_append_right _ _).trans (List.sublist_cons_self _ _))⟩
theorem raise2_yes (hq : q < B) {i xs : Nat} (hi : i ≤ 1000000) (hx : sOf q (-(i : Int) - 1) = xs) (hE : er = 0)
  (hW : ∀ (M : List (Nat × Obj)) (w : World), Rep B0 w0 (M ++ L) w → Calls Tryz.prog 9 #[grp p q g h, .slice xa n cx, num xs] w fun e w' => ∃ X : GrN, e = .returned (.tuple #[.slice X.a k X.cap, .int .i64 er]) ∧ xCc X k F ∧ Rep B0 w0 (X.bl ++ (M ++ L)) w')
  {rv : Nat} (hPr : ∀ (X : GrN) (M : List (Nat × Obj)) (w : World), xCc X k F → (∀ x, x ∈ X.bl → x ∈ M) → Rep B0 w0 (M ++ L) w → Calls Tryz.prog 111 #[grp p q g h, .slice pa n cq, .slice X.a k X.cap] w fun e w' => e = .returned (.tuple #[num rv, .int .i64 0]) ∧ Below w.heap.size w w')
  (h1 : (c1, Obj.cells (gl p q g h).toArray 26) ∈ L) (h2 : (c2, Obj.cells [Value.slice xa n cx].toArray 27) ∈ L) (h3 : (c3, Obj.cells [Value.slice pa n cq].toArray 27) ∈ L) (hR : Rep B0 w0 L w) :
  Calls Tryz.prog 120 #[.int .i64 (i : Int), .pointer (some ⟨c1, 0, none⟩), .pointer (some ⟨c2, 0, none⟩), .pointer (some ⟨c3, 0, none⟩)] w fun e w' => e = .returned (.tuple #[num rv, .int .i64 0]) ∧ Rep B0 w0 L w' := by
 have cN := fun w : World => xFo i hi w
 have cS := fun w : World => SO (p := p) (g := g) (h := h) hq (by omega) (by omega) hx w
 have cW := fun (b : Nat) (l : List Value) (w : World) (hw : Rep B0 w0 ((b, .cells l.toArray 24) :: L) w) => hW [(b, .cells l.toArray 24)] w hw
 subst hE
 clear hW hx
 go_enter Tryz.func120, Tryz.ntmps120
 go_wp2_with (refine' aBq hR ?_; clear hR; intro blk w hR)
 rename_i K5 k5
 try simp only [Act.put, kA, kB, List.setIfInBounds_toArray]
 refine xBl hR 14 xBd rfl ?_
 clear hR
 refine xCo L [1, 1, 1, 1, 1, 1, 1, 1, 2, 2, 2, 2, 2, 2] 6 rfl (fun p hp => absurd hp List.not_mem_nil) (fun p hp => .tail _ hp) rfl (by decide +kernel) (fun K hK => ?_)
 repeat ((first | (refine' xBu rfl rfl rfl inferInstance ?hm ?hn ?ha ?_; (case hm => exact h1); (case hn => rfl)) | (refine' xDi (by decide) rfl rfl rfl field_sdS ?ha ?_) | (refine' hd_callVI rfl rfl rfl rfl (xAi Tryz.func190 (by kernel_rfl) (by kernel_rfl) _) (fun w => cN w) ?ha ?_) | (refine xAp ?_) | (refine' xAj (by decide) rfl (.inl rfl) rfl ?ha ?_) | (refine' aAr ?ha ?_) | (refine' xBk rfl rfl rfl (xAi Tryz.func116 (by kernel_rfl) (by kernel_rfl) _) (fun w => xGt w) ?ha ?_) | (refine' xBk rfl rfl rfl (xAi Tryz.func103 (by kernel_rfl) (by kernel_rfl) _) (fun w => cS w) ?ha ?_)); try (case ha => simp only [kP, kQ, kA, kB]; try rfl))
 refine xAo (hK _ _ ?_)
 clear hK K
 try simp only [Act.put, kA, kB, List.setIfInBounds_toArray]
 refine f_at [8] (by decide +kernel) rfl ?_
 refine f_is 8 ?_
 refine f_call (fun v M => ∃ X : GrN, v = .tuple #[.slice X.a k X.cap, .int .i64 0] ∧ xCc X k F ∧ M = (blk, .cells [.int .u64 0, .int .u64 0, .int .u64 0, .int .u64 0].toArray 24) :: (X.bl ++ L)) rfl rfl rfl rfl rfl (xAi Tryz.func9 (by kernel_rfl) (by kernel_rfl) _) (fun w hw => (cW _ _ w hw).mono fun e w' ⟨X, h1, h2, h3⟩ => ⟨_, h1, _, ⟨X, rfl, h2, rfl⟩, h3.permN List.perm_middle⟩) ?_ xCl
 rintro v M ⟨X, rfl, hX, rfl⟩
 refine ⟨fun p hp => .tail _ (List.mem_append_right _ hp), ?_⟩
 simp only [Act.put, kA, kB, List.setIfInBounds_toArray]
 refine f_at [9] (by decide +kernel) rfl ?_
 refine f_is 9 ?_
 refine f_y rfl rfl (xAy rfl (.inr rfl) rfl) (fun p hp => .tail _ (List.mem_append_right _ hp)) ?_ xCl
 simp only [Act.put, kA, kB, List.setIfInBounds_toArray]
 refine xCo L [2, 2, 2, 2, 2, 2, 2, 2, 2, 2, 1, 1, 2, 2] 2 rfl (fun p hp => hp) (fun p hp => .tail _ (List.mem_append_right _ hp)) rfl (by decide +kernel) (fun K hK => ?_)
 repeat ((first | (refine xAp ?_) | ((refine' xAt (by decide) rfl rfl rfl (fun w => ?hq) ?ha ?_); (case hq => go_simp; try rfl))); try (case ha => simp only [kP, kQ, kA, kB]; try rfl))
 refine xAo (hK _ _ ?_)
 clear hK K
 try simp only [Act.put, kA, kB, List.setIfInBounds_toArray]
 refine f_at [12] (by decide +kernel) rfl ?_
 refine f_is 12 ?_
 refine f_y rfl rfl (xAy rfl (.inl rfl) rfl) (fun p hp => .tail _ (List.mem_append_right _ hp)) ?_ xCl
 simp only [Act.put, kA, kB, List.setIfInBounds_toArray]
 refine f_at [13] (by decide +kernel) rfl ?_
 refine f_is 13 ?_
 refine f_y rfl rfl (xAy rfl (.inl rfl) rfl) (fun p hp => .tail _ (List.mem_append_right _ hp)) ?_ xCl
 simp only [Act.put, kA, kB, List.setIfInBounds_toArray]
 refine f_end (by decide +kernel) (fun w hR => ?_)
 simp only [Exit.then, Exit.inBlock]
 refine k5 _ _ ?_
 clear k5 K5 cW cN cS
 have h1' := List.mem_append_right X.bl h1
 have h3' := List.mem_append_right X.bl h3
 have cP := fun (b : Nat) (l : List Value) (w : World) (hw : Rep B0 w0 ((b, .cells l.toArray 24) :: (X.bl ++ L)) w) => hPr X ((b, .cells l.toArray 24) :: X.bl) w hX (fun x hx => .tail _ hx) hw
 clear hPr hX
 go_wp2_with (first | (refine' aNq hR ?_) | (refine' aMq hR ?_) | (refine' aRq hR ?_; clear hR; intro w hR) | (go_at_call 111; refine (cP _ _ _ hR).mono ?_; rintro e w ⟨rfl, hb⟩; replace hR := hR.call hb; clear hb))
 refine' bodyPost_ret (xAh Tryz.results120 rfl (hR.loadAll (P := Tryz.prog) (ty := 24) (.head _) rfl)) rfl ⟨rfl, hR.weaken ((List.sublist_append_right _ _).trans (List.sublist_cons_self _ _))⟩
end
end
end Go.Proofs.YtaaahfjpnggkbaaGreatDoor
