import Derived.Test.YtaaahfjpnggkbaaGreatDoorZDV
import Derived.Test.YtaaahfjpnggkbaaGreatDoorZZ
import Derived.Test.YtaaahfjpnggkbaaGreatDoorZPF
import Derived.Test.YtaaahfjpnggkbaaGreatDoorZR8
import Derived.Test.YtaaahfjpnggkbaaGreatDoorZR
import Derived.Test.YtaaahfjpnggkbaaGreatDoorZS
import Derived.Test.YtaaahfjpnggkbaaGreatDoorZQ
set_option linter.unusedSimpArgs false
set_option linter.unusedVariables false
set_option maxRecDepth 100000
set_option maxHeartbeats 20000000
namespace Go.Proofs.YtaaahfjpnggkbaaGreatDoor
open Go.RowKit
section
attribute [local irreducible] Calls Instr.build Instr.buildSlice Instr.makeSlice
theorem xCm {P : Program} {ops : Array Oper} {rest : List Oper} {o : Oper} {a : Act} {w : World} {Q : Exit → Act → World → Prop} (hg : o.guard = none) {t : TypeId} (hop : o.op = .build t #[]) {v : Value}
  (hrun : ∀ w, (Instr.build t #[]).run P w = .ok v w) (h : wpList P ops Q rest (a.put o.dst v) w) : wpList P ops Q (o :: rest) a w :=
 wpList_plain hg fun _ hK => by
  unfold Oper.wp execOp
  simp only [hop, List.map_toArray, List.map_nil, hrun, Sem.run_bind, Result.andThen_ok, Sem.run_pure]
  exact hK _ _ h
theorem xIz (w : World) : (Instr.build 24 #[]).run Tryz.prog w = .ok (.agg (nl 0).toArray) w := by
 rw [← xCx]
 kernel_rfl
theorem build_stop (w : World) : (Instr.build 104 #[(0, .int .i64 0)]).run Tryz.prog w = .ok (.agg #[.int .i64 0]) w := by kernel_rfl
noncomputable def zsC (V W : Nat → Nat) (j : Nat) : Pair := if h : V j < B ∧ W j < B then ⟨(V j, W j), h⟩ else ⟨(0, 0), xEs, xEs⟩
theorem zsC_1 {V W : Nat → Nat} {j : Nat} (h1 : V j < B) (h2 : W j < B) : (zsC V W j).1 = (V j, W j) := by unfold zsC; rw [dif_pos ⟨h1, h2⟩]
noncomputable def ckT (p q n : Nat) (V : Nat → Nat) (kk : Nat) : Nat := xHf p (up (zsC V (xFg q n (kk + 1) (mono q kk))) n)
def ckAll (p q n : Nat) (V : Nat → Nat) (k : Nat) : Prop := ∀ kk, kk < n - k → ckT p q n V kk = 1
noncomputable def cL (p q g h n cp : Nat) (a : Option Addr) (k : Nat) (b5 b4 b3 : Nat) : List (Nat × Obj) := [(b5, .cells [.int .i64 (k : Int)].toArray 3), (b4, .cells [.slice a n cp].toArray 27), (b3, .cells (gl p q g h).toArray 26)]
section
variable {B0 : Nat} {w0 w W : World} {L : List (Nat × Obj)} {p q g h n cp k : Nat} {a : Option Addr} {V : Nat → Nat}
theorem prod_ckT (hp : p < B) (hq : q < B) (h1 : 1 < p) (hq1 : 1 < q) (hA : NAt B0 w0 L a n cp V) {aw : Option Addr} {cw : Nat} {kk : Nat} (hW : NAt B0 w0 L aw n cw (xFg q n (kk + 1) (mono q kk))) (hn : n ≤ 1000) (hm : ∀ j, j < n → mayG p (V j)) (hR : Rep B0 w0 L w) :
  Calls Tryz.prog 111 #[grp p q g h, .slice a n cp, .slice aw n cw] w fun e w' => e = .returned (.tuple #[num (ckT p q n V kk), .int .i64 0]) ∧ Rep B0 w0 L w' := by
 have z1 : ∀ j, j < n → (zsC V (xFg q n (kk + 1) (mono q kk)) j).1 = (V j, xFg q n (kk + 1) (mono q kk) j) := fun j hj => zsC_1 (hA.lt j hj) (Nat.lt_trans (wordF_lt hq1 j) hq)
 have nA := hA.nums hR
 have nW := hW.nums hR
 have nA' : xIm w a n fun j => (zsC V (xFg q n (kk + 1) (mono q kk)) j).1.1 := ⟨fun h0 => by
  obtain ⟨b, o, e1, e2, e3⟩ := nA.at' h0
  exact ⟨b, o, e1, e2, fun j hj => by rw [z1 j hj]; exact e3 j hj⟩⟩
 have nW' : xIm w aw n fun j => (zsC V (xFg q n (kk + 1) (mono q kk)) j).1.2 := ⟨fun h0 => by
  obtain ⟨b, o, e1, e2, e3⟩ := nW.at' h0
  exact ⟨b, o, e1, e2, fun j hj => by rw [z1 j hj]; exact e3 j hj⟩⟩
 have hall : xFy p (up (zsC V (xFg q n (kk + 1) (mono q kk))) n) := fun x hx => by
  unfold up at hx
  obtain ⟨j, hj, rfl⟩ := List.mem_map.1 hx
  rw [z1 j (List.mem_range.1 hj)]
  exact hm j (List.mem_range.1 hj)
 refine (product_go (g := g) (h := h) hp hq h1 a aw n cp cw _ (by omega) w nA' nW').mono fun e w' ⟨h1, h2⟩ => ⟨?_, hR.call h2⟩
 rcases h1 with ⟨_, h1⟩ | ⟨h1, _⟩
 ·exact h1
 ·exact absurd hall h1
theorem check1_any (hp : p < B) (hq : q < B) (h1 : 1 < p) (hq1 : 1 < q) (hA : NAt B0 w0 [] a n cp V) (hm : ∀ j, j < n → mayG p (V j)) (hd : difOK q n) (hn1 : 1 ≤ n) (hn7 : n ≤ 7) (hk1 : 1 ≤ k) (hkn : k ≤ n) {b5 b4 b3 : Nat} (M : List (Nat × Obj)) (hM : ∀ x ∈ M, x.2.isCells = true) (hR : Rep B0 w0 (M ++ cL p q g h n cp a k b5 b4 b3) w) :
  Calls Tryz.prog 109 #[.pointer (some ⟨b4, 0, none⟩), .pointer (some ⟨b3, 0, none⟩), .pointer (some ⟨b5, 0, none⟩)] w fun e w' => ((ckAll p q n V k ∧ e = .returned (.tuple #[])) ∨ (¬ ckAll p q n V k ∧ e = .panicked [{ v := .iface 104 (.agg #[.int .i64 0]), recovered := false }])) ∧ Rep B0 w0 (M ++ cL p q g h n cp a k b5 b4 b3) w' := by
 have m5 : (b5, Obj.cells [Value.int .i64 (k : Int)].toArray 3) ∈ M ++ cL p q g h n cp a k b5 b4 b3 := List.mem_append_right _ (.head _)
 have m4 : (b4, Obj.cells [Value.slice a n cp].toArray 27) ∈ M ++ cL p q g h n cp a k b5 b4 b3 := List.mem_append_right _ (.tail _ (.head _))
 have m3 : (b3, Obj.cells (gl p q g h).toArray 26) ∈ M ++ cL p q g h n cp a k b5 b4 b3 := List.mem_append_right _ (.tail _ (.tail _ (.head _)))
 obtain ⟨LL, hLL⟩ : ∃ LL, M ++ cL p q g h n cp a k b5 b4 b3 = LL := ⟨_, rfl⟩
 rw [hLL] at hR m5 m4 m3 ⊢
 clear hLL hM
 replace hA := Held.mk hA
 replace hm := Held.mk hm
 replace hd := Held.mk hd
 go_enter Tryz.func109, Tryz.ntmps109
 go_wp2_with (first | (refine' aAq hR ?_; clear hR; intro blk w hR) | (refine' aBq hR ?_; clear hR; intro blk w hR) | (refine' aPq hR ?_) | (refine' aQq hR ?_) | (refine' aRq hR ?_) | (refine' aZq hR ?_; clear hR; intro w hR) | (refine' aAr hR ?_; clear hR; intro w hR) | fail)
 try simp only [Act.put, kA, kB, List.setIfInBounds_toArray]
 refine' xBh (false :: false :: false :: false :: true :: false :: false :: false :: false :: false :: false :: false :: true :: true :: true :: true :: true :: true :: true :: true :: true :: true :: true :: false :: false :: false :: false :: false :: false :: false :: false :: false :: false :: false :: false :: false :: false :: false :: false :: false :: false :: false :: false :: false :: false :: false :: false :: false :: false :: false :: false :: false :: false :: false :: false :: false :: false :: false :: false :: false :: false :: false :: []) (fun (v : Nat) l => l.set 11 (.int .i64 (v : Int))) (fun v => LL) (fun v => n - v) (fun v => v ≤ n) 0 ?h0 ?hO ?hR ?hs
 case h0 => exact xAn rfl rfl rfl
 case hO => exact Nat.zero_le _
 case hR => exact hR
 case hs =>
  clear hR
  intro i tm w hi ht hR K hK
  have g0 : 0 ≤ (i : Int) := by omega
  by_cases hik : i = n
  case neg =>
   have t1 : (i : Int) < (n : Int) := by omega
   have hin : i < n := by omega
   have hi1 : i + 1 ≤ n := by omega
   have hmu : n - (i + 1) < n - i := by omega
   have ei : IntKind.i64.wrap ((i : Int) + 1) = (i : Int) + 1 := by rw [IntKind.wrap_i64]; omega
   have ek : ((i + 1 : Nat) : Int) = (i : Int) + 1 := by omega
   obtain ⟨bv, ov, rfl, hyv⟩ := hA.out.at' (by omega)
   have ldv := fun (L : List (Nat × Obj)) (w : World) (hw : Rep B0 w0 L w) => xBt (hyv w (hw.weaken (List.nil_sublist _)) i hin)
   have lv := hA.out.lt i hin
   have mv := hm.out i hin
   obtain ⟨vv, hvv⟩ : ∃ v, V i = v := ⟨_, rfl⟩
   rw [hvv] at ldv lv mv
   obtain ⟨rr, hrr⟩ : ∃ v, powN vv 0 p = v := ⟨_, rfl⟩
   have cE := xGo (p := p) (q := q) (g := g) (h := h) (n := 0) (e := 0) hp lv (lt_B (by decide)) (show (if mayG p vv then powN vv 0 p else 0) = rr by rw [if_pos mv]; exact hrr) (if_pos mv)
   have cM := fun w => xEz rr w
   replace ek := Held.mk ek
   replace hi1 := Held.mk hi1
   replace hmu := Held.mk hmu
   clear hi hik hyv hvv hrr mv hin hA hm hd
   repeat (first | (obtain ⟨x, tm', e, ht'⟩ := xAg ht; clear ht; subst e; have ht := ht'; clear ht') | (obtain ⟨tm', e, ht'⟩ := xAd ht; clear ht; subst e; have ht := ht'; clear ht'))
   obtain rfl := xAl ht
   clear ht
   go_wp2_with (first | (refine' aAq hR ?_; clear hR; intro blk w hR) | (refine' aBq hR ?_; clear hR; intro blk w hR) | (refine' aPq hR ?_) | (refine' aQq hR ?_) | (refine' aRq hR ?_) | (refine' aZq hR ?_; clear hR; intro w hR) | (refine' aAr hR ?_; clear hR; intro w hR) | (refine' xCm rfl rfl xIz ?_) | (refine' xCl rfl rfl rfl (ldv _ _ hR) ?_) | (go_at_call 110; refine (cE _).mono ?_; rintro e w ⟨rfl, hb⟩; replace hR := hR.call hb; clear hb) | (go_at_call 102; refine (cM _).mono ?_; rintro e w ⟨rfl, hb⟩; replace hR := hR.call hb; clear hb))
   refine hK.out (i + 1) _ _ hi1.out hmu.out (by simp only [ek.out]; exact xAn rfl rfl rfl) ?_
   exact hR.drop1
  subst hik
  have t1 : ¬ (i : Int) < (i : Int) := by omega
  have esub : IntKind.i64.wrap ((i : Int) - (k : Int)) = ((i - k : Nat) : Int) := by rw [IntKind.wrap_i64]; omega
  clear hK hi
  repeat (first | (obtain ⟨x, tm', e, ht'⟩ := xAg ht; clear ht; subst e; have ht := ht'; clear ht') | (obtain ⟨tm', e, ht'⟩ := xAd ht; clear ht; subst e; have ht := ht'; clear ht'))
  obtain rfl := xAl ht
  clear ht
  go_wp2_with (first | (refine' aAq hR ?_; clear hR; intro blk w hR) | (refine' aBq hR ?_; clear hR; intro blk w hR) | (refine' aPq hR ?_) | (refine' aQq hR ?_) | (refine' aRq hR ?_) | (refine' aZq hR ?_; clear hR; intro w hR) | (refine' aAr hR ?_; clear hR; intro w hR) | fail)
  try simp only [Act.put, kA, kB, List.setIfInBounds_toArray]
  refine' xBh (false :: false :: false :: false :: false :: true :: true :: true :: true :: false :: false :: false :: false :: false :: false :: false :: false :: false :: false :: false :: false :: false :: false :: false :: false :: false :: false :: false :: true :: true :: true :: true :: true :: true :: true :: true :: true :: true :: true :: true :: true :: true :: true :: true :: true :: true :: true :: true :: true :: true :: true :: true :: true :: true :: true :: true :: true :: true :: true :: true :: true :: true :: []) (fun (v : Nat) l => l.set 27 (.int .i64 (v : Int))) (fun v => LL) (fun v => (i - k) - v) (fun v => v ≤ i - k ∧ ∀ kk, kk < v → ckT p q i V kk = 1) 0 ?u0 ?uO ?uR ?us
  case u0 => exact xAn rfl rfl rfl
  case uO => exact ⟨Nat.zero_le _, fun kk h => absurd h (Nat.not_lt_zero kk)⟩
  case uR => exact hR
  case us =>
   clear hR
   intro j tm w hj ht hR K hK
   obtain ⟨hj, hall⟩ := hj
   have g1 : 0 ≤ (j : Int) := by omega
   by_cases hjk : j = i - k
   ·rw [hjk] at ht hall
    have u1 : ¬ ((i - k : Nat) : Int) < ((i - k : Nat) : Int) := by omega
    clear hK
    replace hall := Held.mk hall
    repeat (first | (obtain ⟨x, tm', e, ht'⟩ := xAg ht; clear ht; subst e; have ht := ht'; clear ht') | (obtain ⟨tm', e, ht'⟩ := xAd ht; clear ht; subst e; have ht := ht'; clear ht'))
    obtain rfl := xAl ht
    clear ht
    go_wp2_with (first | (refine' aAq hR ?_; clear hR; intro blk w hR) | (refine' aBq hR ?_; clear hR; intro blk w hR) | (refine' aPq hR ?_) | (refine' aQq hR ?_) | (refine' aRq hR ?_) | (refine' aZq hR ?_; clear hR; intro w hR) | (refine' aAr hR ?_; clear hR; intro w hR) | fail)
    go_end0
    exact ⟨.inl ⟨hall.out, rfl⟩, hR⟩
   ·have u1 : (j : Int) < ((i - k : Nat) : Int) := by omega
    have ej : IntKind.i64.wrap ((j : Int) + 1) = ((j + 1 : Nat) : Int) := by rw [IntKind.wrap_i64]; omega
    have hjM : j + 1 ≤ 1000000 := by omega
    have hj1 : j + 1 ≤ i - k := by omega
    have hmu : (i - k) - (j + 1) < (i - k) - j := by omega
    have v1 : 0 ≤ ((j + 1 : Nat) : Int) := by omega
    have v2 : (j : Int) < ((j + 1 : Nat) : Int) := by omega
    have hji : j + 1 < i := by omega
    obtain ⟨o1, ho1⟩ : ∃ v, sOf q 1 = v := ⟨_, rfl⟩
    have cO := SO (p := p) (g := g) (h := h) (n := 1) hq (by decide) (by decide) ho1
    have hset : ∀ t, t < j + 1 → mono q j t = if t = j then o1 else 0 := fun t ht => by
     unfold mono
     by_cases h2 : t = j
     ·rw [if_pos h2, if_neg (by omega), ho1]
     ·rw [if_neg h2, if_pos (by omega)]
    have hrs := xEn (f := fun _ => 0) (f' := mono q j) (n := j + 1) (i := j) (v := o1) (by omega) hset
    have hlen : j * 4 + 4 ≤ (xBy (fun _ => 0) (j + 1)).length := by rw [xBf]; omega
    have cW := fun (gp : Nat) (w : World) (hw : Rep B0 w0 ((gp, Obj.cells (xBy (mono q j) (j + 1)).toArray 24) :: LL) w) => word_yes (g := g) (h := h) hp hq hq1 ((xFv (f := mono q j) (n := j + 1) hjM).at (B0 := B0) (w0 := w0) (.head _) (Nat.le_refl _) (fun t _ => Nat.lt_trans (mono_lt hq1 j t) hq)) (fun t _ => mono_lt hq1 j t) hd.out hn1 hn7 hji hw
    have cM := fun w => xEz 0 w
    replace hrs := Held.mk hrs
    replace hlen := Held.mk hlen
    replace hset := Held.mk hset
    replace hall := Held.mk hall
    replace hj1 := Held.mk hj1
    replace hmu := Held.mk hmu
    replace hji := Held.mk hji
    clear hj hjk
    repeat (first | (obtain ⟨x, tm', e, ht'⟩ := xAg ht; clear ht; subst e; have ht := ht'; clear ht') | (obtain ⟨tm', e, ht'⟩ := xAd ht; clear ht; subst e; have ht := ht'; clear ht'))
    obtain rfl := xAl ht
    clear ht
    go_wp2_with (first | (refine' aAq hR ?_; clear hR; intro blk w hR) | (refine' aBq hR ?_; clear hR; intro blk w hR) | (refine' aPq hR ?_) | (refine' aQq hR ?_) | (refine' aRq hR ?_) | (refine' aZq hR ?_; clear hR; intro w hR) | (refine' aAr hR ?_; clear hR; intro w hR) | (refine' xCm rfl rfl xIz ?_) | (refine' xCk hR (xDl rfl rfl rfl rfl hjM) ?_; clear hR; intro gp w hR) | (go_at_call 103; refine (cO _).mono ?_; rintro e w ⟨rfl, hb⟩; replace hR := hR.call hb; clear hb) | (refine' xCj (l := xBy (fun _ => 0) (j + 1)) (l' := xBy (mono q j) (j + 1)) (vs := nl o1) hR rfl rfl rfl inferInstance rfl rfl rfl .head hlen.out hrs.out ?_; clear hR; intro w hR) | (go_at_call 18; refine (cW _ _ hR).mono ?_; clear hR; rintro e w ⟨gw, rfl, hR⟩) | (go_at_call 102; refine (cM _).mono ?_; rintro e w ⟨rfl, hb⟩; replace hR := hR.call hb; clear hb))
    obtain ⟨T, hT⟩ : ∃ T, ckT p q i V j = T := ⟨_, rfl⟩
    have lT : T < B := by rw [← hT]; exact Nat.lt_trans (prodL_lt h1 _) hp
    have cP := fun (w : World) (hw : Rep B0 w0 ((gw, Obj.cells (xBy (xFg q i (j + 1) (mono q j)) i).toArray 24) :: (gp, Obj.cells (xBy (mono q j) (j + 1)).toArray 24) :: LL) w) => prod_ckT (g := g) (h := h) hp hq h1 hq1 (hA.out.any (L := (gw, Obj.cells (xBy (xFg q i (j + 1) (mono q j)) i).toArray 24) :: (gp, Obj.cells (xBy (mono q j) (j + 1)).toArray 24) :: LL)) ((xFv (f := xFg q i (j + 1) (mono q j)) (n := i) (by omega)).at (B0 := B0) (w0 := w0) (.head _) (Nat.le_refl _) (fun t _ => Nat.lt_trans (wordF_lt hq1 t) hq)) (by omega) hm.out hw
    rw [hT] at cP
    have cM2 := fun w => xEz T w
    have e1 : sOf q 1 = 1 := sOf_one hq1
    rw [e1] at ho1
    subst ho1
    replace hT := Held.mk hT
    clear cW cM
    try simp only [Act.put, kA, kB, List.setIfInBounds_toArray]
    by_cases hT1 : T = 1
    ·subst hT1
     have eT : eqN 1 1 = true := xFk rfl
     refine xAe hR [0, 0, 0, 0, 0, 0, 0, 0, 0, 0] [] xBo (by kernel_rfl) rfl rfl (fun K hK => ?_)
     clear hR
     repeat ((first | (refine xAy ?_) | (refine' xAk (by decide) rfl (.inl rfl) rfl ?ha ?_) | (refine' xAk (by decide) rfl (.inr rfl) rfl ?ha ?_) | (refine' aSq ?ha ?_) | (refine' aTq ?ha ?_) | (refine' aUq ?ha ?_) | (refine' aVq ?ha ?_) | (refine' aWq ?ha ?_) | ((first | refine' xAc (by decide) rfl rfl rfl rfl (fun w => ?hq) ?ha ?_ | refine' xAs (by decide) rfl rfl rfl rfl (fun w => ?hq) ?ha ?_ | refine' xAi (by decide) rfl rfl rfl (fun w => ?hq) ?ha ?_ | refine' xAb (by decide) rfl rfl rfl (fun w => ?hq) ?ha ?_ | refine' xAh (by decide) rfl rfl rfl (fun w => ?hq) ?ha ?_ | refine' xAq (by decide) rfl rfl rfl rfl (fun w => ?hq) ?ha ?_ | refine' xAr (by decide) rfl rfl rfl rfl rfl rfl (fun w => ?hq) ?ha ?_ | refine' xAo (by decide) rfl rfl (fun w => ?hq) ?ha ?_ | refine' xAj (by decide) rfl rfl rfl (fun w => ?hq) ?ha ?_ | refine' xAp (by decide) rfl rfl rfl (fun w => ?hq) ?ha ?_); (case hq => go_simp; try rfl)) | (refine' xAf (by decide) rfl rfl rfl ?ha ?_) | (refine' xAx (by decide) rfl rfl rfl rfl ?ha ?_) | (refine' xAw (by decide) rfl ?ha ?_) | (refine' xEx rfl rfl rfl (xAv Tryz.func111 (by kernel_rfl) (by kernel_rfl) _) (fun w hw => cP w hw) ?ha ?_) | (refine' xAt rfl rfl rfl (xAv Tryz.func102 (by kernel_rfl) (by kernel_rfl) _) (fun w => cM2 w) ?ha ?_) | (refine' xAt rfl rfl rfl (xAv Tryz.func103 (by kernel_rfl) (by kernel_rfl) _) (fun w => cO w) ?ha ?_)); try (case ha => simp only [kP, kQ, kA, kB]; try rfl))
     refine xBb (hK _ _ ?_)
     clear hK K
     refine xBe (fun Q hQ => ?_)
     try simp only [List.nil_append, List.cons_append]
     repeat ((first | refine' xAm rfl (.inl rfl) rfl ?hk ?ha ?_ | refine' xAm rfl (.inr rfl) rfl ?hk ?ha ?_ | (refine' aBr ?hk ?ha ?_) | (refine' aCr ?hk ?ha ?_) | (refine' aDr ?hk ?ha ?_) | (refine' xAz rfl (fun w => ?hq) ?hk ?ha ?_; (case hq => go_simp; try rfl))); (case hk => intro p hp; first | exact absurd hp List.not_mem_nil | (obtain rfl := List.mem_singleton.1 hp; repeat (first | exact List.Mem.head _ | with_reducible assumption | apply mC))); (case ha => simp only [kP, kQ, kA, kB]; try rfl))
     refine xBd (fun w hR => hQ _ _ ?_)
     clear hQ Q
     go_wp2_with (first | (refine' aAq hR ?_; clear hR; intro blk w hR) | (refine' aBq hR ?_; clear hR; intro blk w hR) | (refine' aPq hR ?_) | (refine' aQq hR ?_) | (refine' aRq hR ?_) | (refine' aZq hR ?_; clear hR; intro w hR) | (refine' aAr hR ?_; clear hR; intro w hR) | fail)
     refine hK.out (j + 1) _ _ ⟨hj1.out, fun kk hkk => ?_⟩ hmu.out (xAn rfl rfl rfl) hR.drop1.drop1
     by_cases h2 : kk = j
     ·rw [h2, hT.out]
     ·exact hall.out kk (by omega)
    ·have eT : eqN T 1 = false := xDk lT (lt_B (by decide)) hT1
     have hno : ¬ ckAll p q i V k := fun hh => hT1 (by rw [← hT.out]; exact hh j (by have := hj1.out; omega))
     replace hno := Held.mk hno
     refine xAe hR [0, 0, 0, 0, 0, 0, 0, 0, 0, 0] [] xBo (by kernel_rfl) rfl rfl (fun K hK => ?_)
     clear hR
     repeat ((first | (refine xAy ?_) | (refine' xAk (by decide) rfl (.inl rfl) rfl ?ha ?_) | (refine' xAk (by decide) rfl (.inr rfl) rfl ?ha ?_) | (refine' aSq ?ha ?_) | (refine' aTq ?ha ?_) | (refine' aUq ?ha ?_) | (refine' aVq ?ha ?_) | (refine' aWq ?ha ?_) | ((first | refine' xAc (by decide) rfl rfl rfl rfl (fun w => ?hq) ?ha ?_ | refine' xAs (by decide) rfl rfl rfl rfl (fun w => ?hq) ?ha ?_ | refine' xAi (by decide) rfl rfl rfl (fun w => ?hq) ?ha ?_ | refine' xAb (by decide) rfl rfl rfl (fun w => ?hq) ?ha ?_ | refine' xAh (by decide) rfl rfl rfl (fun w => ?hq) ?ha ?_ | refine' xAq (by decide) rfl rfl rfl rfl (fun w => ?hq) ?ha ?_ | refine' xAr (by decide) rfl rfl rfl rfl rfl rfl (fun w => ?hq) ?ha ?_ | refine' xAo (by decide) rfl rfl (fun w => ?hq) ?ha ?_ | refine' xAj (by decide) rfl rfl rfl (fun w => ?hq) ?ha ?_ | refine' xAp (by decide) rfl rfl rfl (fun w => ?hq) ?ha ?_); (case hq => go_simp; try rfl)) | (refine' xAf (by decide) rfl rfl rfl ?ha ?_) | (refine' xAx (by decide) rfl rfl rfl rfl ?ha ?_) | (refine' xAw (by decide) rfl ?ha ?_) | (refine' xEx rfl rfl rfl (xAv Tryz.func111 (by kernel_rfl) (by kernel_rfl) _) (fun w hw => cP w hw) ?ha ?_) | (refine' xAt rfl rfl rfl (xAv Tryz.func102 (by kernel_rfl) (by kernel_rfl) _) (fun w => cM2 w) ?ha ?_) | (refine' xAt rfl rfl rfl (xAv Tryz.func103 (by kernel_rfl) (by kernel_rfl) _) (fun w => cO w) ?ha ?_)); try (case ha => simp only [kP, kQ, kA, kB]; try rfl))
     refine xBb (hK _ _ ?_)
     clear hK K
     refine xBe (fun Q hQ => ?_)
     try simp only [List.nil_append, List.cons_append]
     repeat ((first | refine' xAm rfl (.inl rfl) rfl ?hk ?ha ?_ | refine' xAm rfl (.inr rfl) rfl ?hk ?ha ?_ | (refine' aBr ?hk ?ha ?_) | (refine' aCr ?hk ?ha ?_) | (refine' aDr ?hk ?ha ?_) | (refine' xAz rfl (fun w => ?hq) ?hk ?ha ?_; (case hq => go_simp; try rfl))); (case hk => intro p hp; first | exact absurd hp List.not_mem_nil | (obtain rfl := List.mem_singleton.1 hp; repeat (first | exact List.Mem.head _ | with_reducible assumption | apply mC))); (case ha => simp only [kP, kQ, kA, kB]; try rfl))
     refine xBd (fun w hR => hQ _ _ ?_)
     clear hQ Q
     go_wp2_with (first | (refine' aAq hR ?_; clear hR; intro blk w hR) | (refine' aBq hR ?_; clear hR; intro blk w hR) | (refine' aPq hR ?_) | (refine' aQq hR ?_) | (refine' aRq hR ?_) | (refine' aZq hR ?_; clear hR; intro w hR) | (refine' aAr hR ?_; clear hR; intro w hR) | (refine' xBs rfl rfl rfl build_stop ?_))
     exact ⟨rfl, .inr ⟨hno.out, rfl⟩, hR.drop1.drop1⟩
theorem check_bad (m : Int) (hbad : n < 1 ∨ 7 < n ∨ m < 1 ∨ (n : Int) < m) : Calls Tryz.prog 20 #[grp p q g h, .slice a n cp, .int .i64 m] W fun e w' => e = .returned (.tuple #[.bool false, .int .i64 1]) ∧ Below W.heap.size W w' := by
 have hR := Rep.init W
 have hb : ∀ (c : Prop), c ∨ ¬ c := fun c => Classical.em c
 by_cases c1 : n < 1
 ·have d1 : decide ((n : Int) < 1) = true := decide_eq_true (by omega)
  clear hbad c1 hb
  go_enter Tryz.func20, Tryz.ntmps20
  go_wp2_with (first | go_skip | (refine' xBa (l := [.int .i64 m]) hR rfl rfl rfl ?_; clear hR; intro blk w hR) | (refine' xBa (l := [.slice a n cp]) hR rfl rfl rfl ?_; clear hR; intro blk w hR) | (refine' aAq hR ?_; clear hR; intro blk w hR) | (refine' aBq hR ?_; clear hR; intro blk w hR) | (refine' aPq hR ?_) | (refine' aQq hR ?_) | (refine' aRq hR ?_) | (refine' aZq hR ?_; clear hR; intro w hR) | (refine' aAr hR ?_; clear hR; intro w hR) | (refine' aEr hR ?_) | (refine' aFr hR ?_) | (refine' aHr hR ?_))
  go_ret2
  exact ⟨rfl, hR.below⟩
 have d1 : decide ((n : Int) < 1) = false := decide_eq_false (by omega)
 have d1' : ¬ (n : Int) < 1 := by omega
 by_cases c2 : 7 < n
 ·have d2 : decide (7 < (n : Int)) = true := decide_eq_true (by omega)
  clear hbad c1 c2 hb
  go_enter Tryz.func20, Tryz.ntmps20
  go_wp2_with (first | go_skip | (refine' xBa (l := [.int .i64 m]) hR rfl rfl rfl ?_; clear hR; intro blk w hR) | (refine' xBa (l := [.slice a n cp]) hR rfl rfl rfl ?_; clear hR; intro blk w hR) | (refine' aAq hR ?_; clear hR; intro blk w hR) | (refine' aBq hR ?_; clear hR; intro blk w hR) | (refine' aPq hR ?_) | (refine' aQq hR ?_) | (refine' aRq hR ?_) | (refine' aZq hR ?_; clear hR; intro w hR) | (refine' aAr hR ?_; clear hR; intro w hR) | (refine' aEr hR ?_) | (refine' aFr hR ?_) | (refine' aHr hR ?_))
  go_ret2
  exact ⟨rfl, hR.below⟩
 have d2 : decide (7 < (n : Int)) = false := decide_eq_false (by omega)
 have d2' : ¬ 7 < (n : Int) := by omega
 by_cases c3 : m < 1
 ·have d3 : decide (m < 1) = true := decide_eq_true c3
  clear hbad c1 c2 hb
  go_enter Tryz.func20, Tryz.ntmps20
  go_wp2_with (first | go_skip | (refine' xBa (l := [.int .i64 m]) hR rfl rfl rfl ?_; clear hR; intro blk w hR) | (refine' xBa (l := [.slice a n cp]) hR rfl rfl rfl ?_; clear hR; intro blk w hR) | (refine' aAq hR ?_; clear hR; intro blk w hR) | (refine' aBq hR ?_; clear hR; intro blk w hR) | (refine' aPq hR ?_) | (refine' aQq hR ?_) | (refine' aRq hR ?_) | (refine' aZq hR ?_; clear hR; intro w hR) | (refine' aAr hR ?_; clear hR; intro w hR) | (refine' aEr hR ?_) | (refine' aFr hR ?_) | (refine' aHr hR ?_))
  go_ret2
  exact ⟨rfl, hR.below⟩
 have d3 : decide (m < 1) = false := decide_eq_false c3
 have c4 : (n : Int) < m := by omega
 have d4 : decide ((n : Int) < m) = true := decide_eq_true c4
 clear hbad c1 c2 hb
 go_enter Tryz.func20, Tryz.ntmps20
 go_wp2_with (first | go_skip | (refine' xBa (l := [.int .i64 m]) hR rfl rfl rfl ?_; clear hR; intro blk w hR) | (refine' xBa (l := [.slice a n cp]) hR rfl rfl rfl ?_; clear hR; intro blk w hR) | (refine' aAq hR ?_; clear hR; intro blk w hR) | (refine' aBq hR ?_; clear hR; intro blk w hR) | (refine' aPq hR ?_) | (refine' aQq hR ?_) | (refine' aRq hR ?_) | (refine' aZq hR ?_; clear hR; intro w hR) | (refine' aAr hR ?_; clear hR; intro w hR) | (refine' aEr hR ?_) | (refine' aFr hR ?_) | (refine' aHr hR ?_))
 go_ret2
 exact ⟨rfl, hR.below⟩
theorem check_go (hp : p < B) (hq : q < B) (h1 : 1 < p) (hq1 : 1 < q) (hA : NAt W.heap.size W [] a n cp V) (hm : ∀ j, j < n → mayG p (V j)) (hd : difOK q n) (hn1 : 1 ≤ n) (hn7 : n ≤ 7) (hk1 : 1 ≤ k) (hkn : k ≤ n) (s : Bool) (hs : s = true ↔ ckAll p q n V k) :
  Calls Tryz.prog 20 #[grp p q g h, .slice a n cp, .int .i64 (k : Int)] W fun e w' => e = .returned (.tuple #[.bool s, .int .i64 0]) ∧ Below W.heap.size W w' := by
 have hR := Rep.init W
 have hmf : ∀ (fn : Fn) (first cap : Array Value) (w : World), (Instr.makeFunc fn first cap).run Tryz.prog w = .ok (.func fn first cap) w := fun _ _ _ _ => rfl
 have d1 : decide ((n : Int) < 1) = false := decide_eq_false (by omega)
 have d1' : ¬ (n : Int) < 1 := by omega
 have d2 : decide (7 < (n : Int)) = false := decide_eq_false (by omega)
 have d2' : ¬ 7 < (n : Int) := by omega
 have d3 : decide ((k : Int) < 1) = false := decide_eq_false (by omega)
 have d3' : ¬ (k : Int) < 1 := by omega
 have d4 : decide ((n : Int) < (k : Int)) = false := decide_eq_false (by omega)
 have d4' : ¬ (n : Int) < (k : Int) := by omega
 have cc := fun (b5 b4 b3 : Nat) (M : List (Nat × Obj)) (w : World) (hM : ∀ x ∈ M, x.2.isCells = true) (hw : Rep W.heap.size W (M ++ cL p q g h n cp a k b5 b4 b3) w) => check1_any (g := g) (h := h) hp hq h1 hq1 hA hm hd hn1 hn7 hk1 hkn M hM hw
 clear hA hm hd
 by_cases hall : ckAll p q n V k
 ·obtain rfl := hs.2 hall
  have c2 : ∀ (b5 b4 b3 : Nat) (M : List (Nat × Obj)) (w : World), (∀ x ∈ M, x.2.isCells = true) → Rep W.heap.size W (M ++ cL p q g h n cp a k b5 b4 b3) w → Calls Tryz.prog 109 #[.pointer (some ⟨b4, 0, none⟩), .pointer (some ⟨b3, 0, none⟩), .pointer (some ⟨b5, 0, none⟩)] w fun e w' => e = .returned (.tuple #[]) ∧ Rep W.heap.size W (M ++ cL p q g h n cp a k b5 b4 b3) w' := fun b5 b4 b3 M w hM hw => (cc b5 b4 b3 M w hM hw).mono fun e w' ⟨hx, hy⟩ => ⟨hx.elim (fun hh => hh.2) fun hh => absurd hall hh.1, hy⟩
  clear hs hall cc
  go_enter Tryz.func20, Tryz.ntmps20
  go_wp2_with (first | go_skip | (refine' xBa (l := [.int .i64 (k : Int)]) hR rfl rfl rfl ?_; clear hR; intro blk w hR) | (refine' xBa (l := [.slice a n cp]) hR rfl rfl rfl ?_; clear hR; intro blk w hR) | (refine' aAq hR ?_; clear hR; intro blk w hR) | (refine' aBq hR ?_; clear hR; intro blk w hR) | (refine' aPq hR ?_) | (refine' aQq hR ?_) | (refine' aRq hR ?_) | (refine' aZq hR ?_; clear hR; intro w hR) | (refine' aAr hR ?_; clear hR; intro w hR) | (refine' aEr hR ?_) | (refine' aFr hR ?_) | (refine' aHr hR ?_) | (go_at_call 100; refine (xJq [_, _, _] (fun M w hM hw => c2 _ _ _ M w hM hw) hR).mono ?_; clear hR; rintro e w ⟨rfl, hR⟩))
  go_ret2
  exact ⟨rfl, hR.below⟩
 ·obtain rfl : s = false := by
   cases s
   ·rfl
   ·exact absurd (hs.1 rfl) hall
  have c2 : ∀ (b5 b4 b3 : Nat) (M : List (Nat × Obj)) (w : World), (∀ x ∈ M, x.2.isCells = true) → Rep W.heap.size W (M ++ cL p q g h n cp a k b5 b4 b3) w → Calls Tryz.prog 109 #[.pointer (some ⟨b4, 0, none⟩), .pointer (some ⟨b3, 0, none⟩), .pointer (some ⟨b5, 0, none⟩)] w fun e w' => e = .panicked [{ v := .iface 104 (.agg #[.int .i64 0]), recovered := false }] ∧ Rep W.heap.size W (M ++ cL p q g h n cp a k b5 b4 b3) w' := fun b5 b4 b3 M w hM hw => (cc b5 b4 b3 M w hM hw).mono fun e w' ⟨hx, hy⟩ => ⟨hx.elim (fun hh => absurd hh.1 hall) fun hh => hh.2, hy⟩
  clear hs hall cc
  go_enter Tryz.func20, Tryz.ntmps20
  go_wp2_with (first | go_skip | (refine' xBa (l := [.int .i64 (k : Int)]) hR rfl rfl rfl ?_; clear hR; intro blk w hR) | (refine' xBa (l := [.slice a n cp]) hR rfl rfl rfl ?_; clear hR; intro blk w hR) | (refine' aAq hR ?_; clear hR; intro blk w hR) | (refine' aBq hR ?_; clear hR; intro blk w hR) | (refine' aPq hR ?_) | (refine' aQq hR ?_) | (refine' aRq hR ?_) | (refine' aZq hR ?_; clear hR; intro w hR) | (refine' aAr hR ?_; clear hR; intro w hR) | (refine' aEr hR ?_) | (refine' aFr hR ?_) | (refine' aHr hR ?_) | (go_at_call 100; refine (xIo [_, _, _] 0 (fun M w hM hw => c2 _ _ _ M w hM hw) hR).mono ?_; clear hR; rintro e w ⟨rfl, hR⟩))
  go_ret2
  exact ⟨rfl, hR.below⟩
end
end
section
attribute [local irreducible] Calls
noncomputable def zsP (f k : Nat → Nat) (j : Nat) : Pair := by
 classical exact if h : f j < B ∧ k j < B then ⟨(f j, k j), h.1, h.2⟩ else ⟨(0, 0), xEs, xEs⟩
theorem zsP_is {f k : Nat → Nat} {j : Nat} (h1 : f j < B) (h2 : k j < B) : (zsP f k j).1 = (f j, k j) := by
 unfold zsP
 rw [dif_pos ⟨h1, h2⟩]
def prodRes (p n m : Nat) (zs : Nat → Pair) (r : Nat) (e : Int) : Prop := ((1 < p ∧ n = m ∧ xFy p (up zs n)) ∧ r = xHf p (up zs n) ∧ e = 0) ∨ (¬ (1 < p ∧ n = m ∧ xFy p (up zs n)) ∧ r = 0 ∧ e = 1)
section
variable {p q g h : Nat} {B0 : Nat} {w0 w : World} {L : List (Nat × Obj)} {pa pn : Option Addr} {n m ca cn : Nat} {f k : Nat → Nat}
theorem xIm.to {a : Option Addr} {f f' : Nat → Nat} (h : xIm w a n f) (e : ∀ j, j < n → f' j = f j) : xIm w a n f' := ⟨fun hp => by
 obtain ⟨b, o, q1, q2, q3⟩ := h.at' hp
 exact ⟨b, o, q1, q2, fun j hj => by rw [e j hj]; exact q3 j hj⟩⟩
theorem rprod_any {W : World} (hp : p < B) (hq : q < B) (hA : NAt W.heap.size W [] pa n ca f) (hN : NAt W.heap.size W [] pn m cn k) (h1 : n ≤ 1000000) (h2 : m ≤ 1000000) {r : Nat} {e : Int} (hr : prodRes p n m (zsP f k) r e) :
  Calls Tryz.prog 113 #[grp p q g h, .slice pa n ca, .slice pn m cn] W fun e' w' => e' = .returned (.tuple #[num r, .int .i64 e]) ∧ Below W.heap.size W w' := by
 have tp := gl_p p q g h
 obtain ⟨n1, hn1⟩ : ∃ n, n = 1 := ⟨_, rfl⟩
 have o1 := fun w => rone_any n1 hn1 w
 have L1 : n1 < B := lt_B (by omega)
 have c1 := rc_lit hp L1 rfl
 have k1 := xHz p n1
 have hR := Rep.init W
 by_cases hb1 : 1 < p
 case neg =>
  have j1 : decide (cmpN p n1 ≤ 0) = true := decide_eq_true (k1.mpr (by omega))
  have j1' : cmpN p n1 ≤ 0 := oD j1
  generalize cmpN p n1 = x1 at *
  rcases hr with ⟨hyes, -, -⟩ | ⟨-, rfl, rfl⟩
  ·exact absurd hyes.1 hb1
  rw [z_num]
  clear k1 hb1 hn1 L1 hA hN
  go_enter Tryz.func113, Tryz.ntmps113
  go_wp2_with (first | (refine' aAq hR ?_; clear hR; intro blk w hR) | (refine' aBq hR ?_; clear hR; intro blk w hR) | (refine' aPq hR ?_) | (refine' aQq hR ?_) | (refine' aRq hR ?_) | (refine' aFq hR ?_; clear hR; intro w hR) | (refine' aGq hR ?_; clear hR; intro w hR) | fail)
  refine xAe hR [0, 0, 0, 0, 0, 0, 0, 0, 0, 0, 0, 0] [] xBo (by kernel_rfl) rfl rfl (fun K hK => ?_)
  clear hR
  repeat ((first | (refine xAy ?_) | (refine' xAk (by decide) rfl (.inl rfl) rfl ?ha ?_) | (refine' xAk (by decide) rfl (.inr rfl) rfl ?ha ?_) | (refine' aSq ?ha ?_) | (refine' aTq ?ha ?_) | (refine' aUq ?ha ?_) | (refine' aVq ?ha ?_) | (refine' aWq ?ha ?_) | ((first | refine' xAc (by decide) rfl rfl rfl rfl (fun w => ?hq) ?ha ?_ | refine' xAs (by decide) rfl rfl rfl rfl (fun w => ?hq) ?ha ?_ | refine' xAi (by decide) rfl rfl rfl (fun w => ?hq) ?ha ?_ | refine' xAb (by decide) rfl rfl rfl (fun w => ?hq) ?ha ?_ | refine' xAh (by decide) rfl rfl rfl (fun w => ?hq) ?ha ?_ | refine' xAq (by decide) rfl rfl rfl rfl (fun w => ?hq) ?ha ?_ | refine' xAr (by decide) rfl rfl rfl rfl rfl rfl (fun w => ?hq) ?ha ?_ | refine' xAo (by decide) rfl rfl (fun w => ?hq) ?ha ?_ | refine' xAj (by decide) rfl rfl rfl (fun w => ?hq) ?ha ?_ | refine' xAp (by decide) rfl rfl rfl (fun w => ?hq) ?ha ?_); (case hq => go_simp; try rfl)) | (refine' xAf (by decide) rfl rfl rfl ?ha ?_) | (refine' xAx (by decide) rfl rfl rfl rfl ?ha ?_) | (refine' xAw (by decide) rfl ?ha ?_) | (refine' xAt rfl rfl rfl (xAv Tryz.func186 (by kernel_rfl) (by kernel_rfl) _) (fun w => o1 w) ?ha ?_) | (refine' xAt rfl rfl rfl (xAv Tryz.func185 (by kernel_rfl) (by kernel_rfl) _) (fun w => c1 w) ?ha ?_) | (refine' hd_len (by decide) rfl rfl rfl (fun w => ?hq) ?ha ?_; (case hq => go_simp; try rfl))); try (case ha => simp only [kP, kQ, kA, kB]; try rfl))
  refine xBb (hK _ _ ?_)
  clear hK K
  refine xBe (fun Q hQ => ?_)
  try simp only [List.nil_append, List.cons_append]
  repeat ((first | refine' xAm rfl (.inl rfl) rfl ?hk ?ha ?_ | refine' xAm rfl (.inr rfl) rfl ?hk ?ha ?_ | (refine' aMq ?hk ?ha ?_) | (refine' aNq ?hk ?ha ?_) | (refine' aOq ?hk ?ha ?_) | (refine' xAz rfl (fun w => ?hq) ?hk ?ha ?_; (case hq => go_simp; try rfl))); (case hk => intro p hp; first | exact absurd hp List.not_mem_nil | (obtain rfl := List.mem_singleton.1 hp; repeat (first | exact List.Mem.head _ | with_reducible assumption | apply mC))); (case ha => simp only [kP, kQ, kA, kB]; try rfl))
  refine xBd (fun w hR => hQ _ _ ?_)
  clear hQ Q
  go_wp2_with (first | (refine' aAq hR ?_; clear hR; intro blk w hR) | (refine' aBq hR ?_; clear hR; intro blk w hR) | (refine' aPq hR ?_) | (refine' aQq hR ?_) | (refine' aRq hR ?_) | (refine' aFq hR ?_; clear hR; intro w hR) | (refine' aGq hR ?_; clear hR; intro w hR) | fail)
  (refine' bodyPost_ret (xAu Tryz.results113 rfl (hR.loadAll (P := Tryz.prog) (ty := 24) ?hm ?hn)) rfl ⟨?_, hR.below⟩; (case hm => first | with_reducible assumption | repeat (first | exact .head _ | with_reducible assumption | apply mC)); (case hn => first | rfl | simp))
  rfl
 have j1' : ¬ cmpN p n1 ≤ 0 := fun h => by have := k1.mp h; omega
 have j1 : decide (cmpN p n1 ≤ 0) = false := decide_eq_false j1'
 generalize cmpN p n1 = x1 at *
 clear k1
 by_cases hnm : n = m
 case neg =>
  rcases hr with ⟨hyes, -, -⟩ | ⟨-, rfl, rfl⟩
  ·exact absurd hyes.2.1 hnm
  rw [z_num]
  have j3 : ¬ (n : Int) = (m : Int) := by omega
  have j2 : ((n : Int) == (m : Int)) = false := by simp; omega
  have j4 : ((n : Int) != (m : Int)) = true := by simp; omega
  clear hb1 hn1 L1 hA hN hnm
  go_enter Tryz.func113, Tryz.ntmps113
  go_wp2_with (first | (refine' aAq hR ?_; clear hR; intro blk w hR) | (refine' aBq hR ?_; clear hR; intro blk w hR) | (refine' aPq hR ?_) | (refine' aQq hR ?_) | (refine' aRq hR ?_) | (refine' aFq hR ?_; clear hR; intro w hR) | (refine' aGq hR ?_; clear hR; intro w hR) | fail)
  refine xAe hR [0, 0, 0, 0, 0, 0, 0, 0, 0, 0, 0, 0] [] xBo (by kernel_rfl) rfl rfl (fun K hK => ?_)
  clear hR
  repeat ((first | (refine xAy ?_) | (refine' xAk (by decide) rfl (.inl rfl) rfl ?ha ?_) | (refine' xAk (by decide) rfl (.inr rfl) rfl ?ha ?_) | (refine' aSq ?ha ?_) | (refine' aTq ?ha ?_) | (refine' aUq ?ha ?_) | (refine' aVq ?ha ?_) | (refine' aWq ?ha ?_) | ((first | refine' xAc (by decide) rfl rfl rfl rfl (fun w => ?hq) ?ha ?_ | refine' xAs (by decide) rfl rfl rfl rfl (fun w => ?hq) ?ha ?_ | refine' xAi (by decide) rfl rfl rfl (fun w => ?hq) ?ha ?_ | refine' xAb (by decide) rfl rfl rfl (fun w => ?hq) ?ha ?_ | refine' xAh (by decide) rfl rfl rfl (fun w => ?hq) ?ha ?_ | refine' xAq (by decide) rfl rfl rfl rfl (fun w => ?hq) ?ha ?_ | refine' xAr (by decide) rfl rfl rfl rfl rfl rfl (fun w => ?hq) ?ha ?_ | refine' xAo (by decide) rfl rfl (fun w => ?hq) ?ha ?_ | refine' xAj (by decide) rfl rfl rfl (fun w => ?hq) ?ha ?_ | refine' xAp (by decide) rfl rfl rfl (fun w => ?hq) ?ha ?_); (case hq => go_simp; try rfl)) | (refine' xAf (by decide) rfl rfl rfl ?ha ?_) | (refine' xAx (by decide) rfl rfl rfl rfl ?ha ?_) | (refine' xAw (by decide) rfl ?ha ?_) | (refine' xAt rfl rfl rfl (xAv Tryz.func186 (by kernel_rfl) (by kernel_rfl) _) (fun w => o1 w) ?ha ?_) | (refine' xAt rfl rfl rfl (xAv Tryz.func185 (by kernel_rfl) (by kernel_rfl) _) (fun w => c1 w) ?ha ?_) | (refine' hd_len (by decide) rfl rfl rfl (fun w => ?hq) ?ha ?_; (case hq => go_simp; try rfl))); try (case ha => simp only [kP, kQ, kA, kB]; try rfl))
  refine xBb (hK _ _ ?_)
  clear hK K
  refine xBe (fun Q hQ => ?_)
  try simp only [List.nil_append, List.cons_append]
  repeat ((first | refine' xAm rfl (.inl rfl) rfl ?hk ?ha ?_ | refine' xAm rfl (.inr rfl) rfl ?hk ?ha ?_ | (refine' aMq ?hk ?ha ?_) | (refine' aNq ?hk ?ha ?_) | (refine' aOq ?hk ?ha ?_) | (refine' xAz rfl (fun w => ?hq) ?hk ?ha ?_; (case hq => go_simp; try rfl))); (case hk => intro p hp; first | exact absurd hp List.not_mem_nil | (obtain rfl := List.mem_singleton.1 hp; repeat (first | exact List.Mem.head _ | with_reducible assumption | apply mC))); (case ha => simp only [kP, kQ, kA, kB]; try rfl))
  refine xBd (fun w hR => hQ _ _ ?_)
  clear hQ Q
  go_wp2_with (first | (refine' aAq hR ?_; clear hR; intro blk w hR) | (refine' aBq hR ?_; clear hR; intro blk w hR) | (refine' aPq hR ?_) | (refine' aQq hR ?_) | (refine' aRq hR ?_) | (refine' aFq hR ?_; clear hR; intro w hR) | (refine' aGq hR ?_; clear hR; intro w hR) | fail)
  (refine' bodyPost_ret (xAu Tryz.results113 rfl (hR.loadAll (P := Tryz.prog) (ty := 24) ?hm ?hn)) rfl ⟨?_, hR.below⟩; (case hm => first | with_reducible assumption | repeat (first | exact .head _ | with_reducible assumption | apply mC)); (case hn => first | rfl | simp))
  rfl
 subst hnm
 have hr' : (xFy p (up (zsP f k) n) ∧ r = xHf p (up (zsP f k) n) ∧ e = 0) ∨ (¬ xFy p (up (zsP f k) n) ∧ r = 0 ∧ e = 1) := by
  rcases hr with ⟨hyes, h3, h4⟩ | ⟨hno, h3, h4⟩
  ·exact .inl ⟨hyes.2.2, h3, h4⟩
  ·exact .inr ⟨fun hm => hno ⟨hb1, rfl, hm⟩, h3, h4⟩
 have ep : xHf p [] = n1 := by rw [hn1]; rfl
 have fB : ∀ j, j < n → f j < B := hA.lt
 have kB : ∀ j, j < n → k j < B := hN.lt
 replace ep := Held.mk ep
 replace hr' := Held.mk hr'
 replace hA := Held.mk hA
 replace hN := Held.mk hN
 replace fB := Held.mk fB
 replace kB := Held.mk kB
 clear hr hn1 L1
 go_enter Tryz.func113, Tryz.ntmps113
 go_wp2_with (first | (refine' aAq hR ?_; clear hR; intro blk w hR) | (refine' aBq hR ?_; clear hR; intro blk w hR) | (refine' aPq hR ?_) | (refine' aQq hR ?_) | (refine' aRq hR ?_) | (refine' aFq hR ?_; clear hR; intro w hR) | (refine' aGq hR ?_; clear hR; intro w hR) | fail)
 refine xAe hR [0, 0, 0, 0, 0, 0, 0, 0, 0, 0, 0, 0] [] xBo (by kernel_rfl) rfl rfl (fun K hK => ?_)
 clear hR
 repeat ((first | (refine xAy ?_) | (refine' xAk (by decide) rfl (.inl rfl) rfl ?ha ?_) | (refine' xAk (by decide) rfl (.inr rfl) rfl ?ha ?_) | (refine' aSq ?ha ?_) | (refine' aTq ?ha ?_) | (refine' aUq ?ha ?_) | (refine' aVq ?ha ?_) | (refine' aWq ?ha ?_) | ((first | refine' xAc (by decide) rfl rfl rfl rfl (fun w => ?hq) ?ha ?_ | refine' xAs (by decide) rfl rfl rfl rfl (fun w => ?hq) ?ha ?_ | refine' xAi (by decide) rfl rfl rfl (fun w => ?hq) ?ha ?_ | refine' xAb (by decide) rfl rfl rfl (fun w => ?hq) ?ha ?_ | refine' xAh (by decide) rfl rfl rfl (fun w => ?hq) ?ha ?_ | refine' xAq (by decide) rfl rfl rfl rfl (fun w => ?hq) ?ha ?_ | refine' xAr (by decide) rfl rfl rfl rfl rfl rfl (fun w => ?hq) ?ha ?_ | refine' xAo (by decide) rfl rfl (fun w => ?hq) ?ha ?_ | refine' xAj (by decide) rfl rfl rfl (fun w => ?hq) ?ha ?_ | refine' xAp (by decide) rfl rfl rfl (fun w => ?hq) ?ha ?_); (case hq => go_simp; try rfl)) | (refine' xAf (by decide) rfl rfl rfl ?ha ?_) | (refine' xAx (by decide) rfl rfl rfl rfl ?ha ?_) | (refine' xAw (by decide) rfl ?ha ?_) | (refine' xAt rfl rfl rfl (xAv Tryz.func186 (by kernel_rfl) (by kernel_rfl) _) (fun w => o1 w) ?ha ?_) | (refine' xAt rfl rfl rfl (xAv Tryz.func185 (by kernel_rfl) (by kernel_rfl) _) (fun w => c1 w) ?ha ?_) | (refine' hd_len (by decide) rfl rfl rfl (fun w => ?hq) ?ha ?_; (case hq => go_simp; try rfl))); try (case ha => simp only [kP, kQ, kA, kB]; try rfl))
 refine xBb (hK _ _ ?_)
 clear hK K
 refine xBe (fun Q hQ => ?_)
 try simp only [List.nil_append, List.cons_append]
 repeat ((first | refine' xAm rfl (.inl rfl) rfl ?hk ?ha ?_ | refine' xAm rfl (.inr rfl) rfl ?hk ?ha ?_ | (refine' aMq ?hk ?ha ?_) | (refine' aNq ?hk ?ha ?_) | (refine' aOq ?hk ?ha ?_) | (refine' xAz rfl (fun w => ?hq) ?hk ?ha ?_; (case hq => go_simp; try rfl))); (case hk => intro p hp; first | exact absurd hp List.not_mem_nil | (obtain rfl := List.mem_singleton.1 hp; repeat (first | exact List.Mem.head _ | with_reducible assumption | apply mC))); (case ha => simp only [kP, kQ, kA, kB]; try rfl))
 refine xBd (fun w hR => hQ _ _ ?_)
 clear hQ Q
 go_wp2_with (first | (refine' aAq hR ?_; clear hR; intro blk w hR) | (refine' aBq hR ?_; clear hR; intro blk w hR) | (refine' aPq hR ?_) | (refine' aQq hR ?_) | (refine' aRq hR ?_) | (refine' aFq hR ?_; clear hR; intro w hR) | (refine' aGq hR ?_; clear hR; intro w hR) | (go_at_call 186; refine (o1 _).mono ?_; rintro e w ⟨rfl, hb⟩; replace hR := hR.call hb; clear hb))
 clear o1 c1
 (first | (rename_i b6; change Nat at b6) | (rename_i b6 _; change Nat at b6) | (rename_i b6 _ _; change Nat at b6) | (rename_i b6 _ _ _; change Nat at b6) | (rename_i b6 _ _ _ _; change Nat at b6) | (rename_i b6 _ _ _ _ _; change Nat at b6) | (rename_i b6 _ _ _ _ _ _; change Nat at b6) | (rename_i b6 _ _ _ _ _ _ _; change Nat at b6) | (rename_i b6 _ _ _ _ _ _ _ _; change Nat at b6) | (rename_i b6 _ _ _ _ _ _ _ _ _; change Nat at b6) | (rename_i b6 _ _ _ _ _ _ _ _ _ _; change Nat at b6) | (rename_i b6 _ _ _ _ _ _ _ _ _ _ _; change Nat at b6) | (rename_i b6 _ _ _ _ _ _ _ _ _ _ _ _; change Nat at b6) | (rename_i b6 _ _ _ _ _ _ _ _ _ _ _ _ _; change Nat at b6) | (rename_i b6 _ _ _ _ _ _ _ _ _ _ _ _ _ _; change Nat at b6) | (rename_i b6 _ _ _ _ _ _ _ _ _ _ _ _ _ _ _; change Nat at b6) | (rename_i b6 _ _ _ _ _ _ _ _ _ _ _ _ _ _ _ _; change Nat at b6) | (rename_i b6 _ _ _ _ _ _ _ _ _ _ _ _ _ _ _ _ _; change Nat at b6) | (rename_i b6 _ _ _ _ _ _ _ _ _ _ _ _ _ _ _ _ _ _; change Nat at b6) | (rename_i b6 _ _ _ _ _ _ _ _ _ _ _ _ _ _ _ _ _ _ _; change Nat at b6) | (rename_i b6 _ _ _ _ _ _ _ _ _ _ _ _ _ _ _ _ _ _ _ _; change Nat at b6) | (rename_i b6 _ _ _ _ _ _ _ _ _ _ _ _ _ _ _ _ _ _ _ _ _; change Nat at b6) | (rename_i b6 _ _ _ _ _ _ _ _ _ _ _ _ _ _ _ _ _ _ _ _ _ _; change Nat at b6) | (rename_i b6 _ _ _ _ _ _ _ _ _ _ _ _ _ _ _ _ _ _ _ _ _ _ _; change Nat at b6) | (rename_i b6 _ _ _ _ _ _ _ _ _ _ _ _ _ _ _ _ _ _ _ _ _ _ _ _; change Nat at b6) | (rename_i b6 _ _ _ _ _ _ _ _ _ _ _ _ _ _ _ _ _ _ _ _ _ _ _ _ _; change Nat at b6) | (rename_i b6 _ _ _ _ _ _ _ _ _ _ _ _ _ _ _ _ _ _ _ _ _ _ _ _ _ _; change Nat at b6) | (rename_i b6 _ _ _ _ _ _ _ _ _ _ _ _ _ _ _ _ _ _ _ _ _ _ _ _ _ _ _; change Nat at b6) | (rename_i b6 _ _ _ _ _ _ _ _ _ _ _ _ _ _ _ _ _ _ _ _ _ _ _ _ _ _ _ _; change Nat at b6) | (rename_i b6 _ _ _ _ _ _ _ _ _ _ _ _ _ _ _ _ _ _ _ _ _ _ _ _ _ _ _ _ _; change Nat at b6))
 (first | (rename_i bg; change Nat at bg) | (rename_i bg _; change Nat at bg) | (rename_i bg _ _; change Nat at bg) | (rename_i bg _ _ _; change Nat at bg) | (rename_i bg _ _ _ _; change Nat at bg) | (rename_i bg _ _ _ _ _; change Nat at bg) | (rename_i bg _ _ _ _ _ _; change Nat at bg) | (rename_i bg _ _ _ _ _ _ _; change Nat at bg) | (rename_i bg _ _ _ _ _ _ _ _; change Nat at bg) | (rename_i bg _ _ _ _ _ _ _ _ _; change Nat at bg) | (rename_i bg _ _ _ _ _ _ _ _ _ _; change Nat at bg) | (rename_i bg _ _ _ _ _ _ _ _ _ _ _; change Nat at bg) | (rename_i bg _ _ _ _ _ _ _ _ _ _ _ _; change Nat at bg) | (rename_i bg _ _ _ _ _ _ _ _ _ _ _ _ _; change Nat at bg) | (rename_i bg _ _ _ _ _ _ _ _ _ _ _ _ _ _; change Nat at bg) | (rename_i bg _ _ _ _ _ _ _ _ _ _ _ _ _ _ _; change Nat at bg) | (rename_i bg _ _ _ _ _ _ _ _ _ _ _ _ _ _ _ _; change Nat at bg) | (rename_i bg _ _ _ _ _ _ _ _ _ _ _ _ _ _ _ _ _; change Nat at bg) | (rename_i bg _ _ _ _ _ _ _ _ _ _ _ _ _ _ _ _ _ _; change Nat at bg) | (rename_i bg _ _ _ _ _ _ _ _ _ _ _ _ _ _ _ _ _ _ _; change Nat at bg) | (rename_i bg _ _ _ _ _ _ _ _ _ _ _ _ _ _ _ _ _ _ _ _; change Nat at bg) | (rename_i bg _ _ _ _ _ _ _ _ _ _ _ _ _ _ _ _ _ _ _ _ _; change Nat at bg) | (rename_i bg _ _ _ _ _ _ _ _ _ _ _ _ _ _ _ _ _ _ _ _ _ _; change Nat at bg) | (rename_i bg _ _ _ _ _ _ _ _ _ _ _ _ _ _ _ _ _ _ _ _ _ _ _; change Nat at bg) | (rename_i bg _ _ _ _ _ _ _ _ _ _ _ _ _ _ _ _ _ _ _ _ _ _ _ _; change Nat at bg) | (rename_i bg _ _ _ _ _ _ _ _ _ _ _ _ _ _ _ _ _ _ _ _ _ _ _ _ _; change Nat at bg) | (rename_i bg _ _ _ _ _ _ _ _ _ _ _ _ _ _ _ _ _ _ _ _ _ _ _ _ _ _; change Nat at bg) | (rename_i bg _ _ _ _ _ _ _ _ _ _ _ _ _ _ _ _ _ _ _ _ _ _ _ _ _ _ _; change Nat at bg) | (rename_i bg _ _ _ _ _ _ _ _ _ _ _ _ _ _ _ _ _ _ _ _ _ _ _ _ _ _ _ _; change Nat at bg) | (rename_i bg _ _ _ _ _ _ _ _ _ _ _ _ _ _ _ _ _ _ _ _ _ _ _ _ _ _ _ _ _; change Nat at bg))
 replace hR := (show Rep _ _ [(blk, Obj.cells (nl (xHf p (up (zsP f k) 0))).toArray 24), _, _] _ by rw [up_zero, ep.out]; exact hR)
 try simp only [Act.put, kA, kB, List.setIfInBounds_toArray]
 refine' xBh (false :: false :: false :: false :: false :: false :: false :: false :: false :: false :: true :: true :: false :: false :: false :: false :: false :: false :: false :: false :: false :: false :: false :: false :: false :: false :: true :: true :: true :: true :: true :: true :: true :: true :: true :: true :: true :: true :: true :: true :: true :: true :: true :: true :: true :: true :: true :: true :: true :: true :: true :: true :: true :: true :: true :: true :: true :: true :: true :: true :: true :: true :: false :: []) (fun (i : Nat) l => l.set 9 (.int .i64 (i : Int))) (fun i => [(blk, Obj.cells (nl (xHf p (up (zsP f k) i))).toArray 24), (b6, Obj.cells (List.toArray [Value.int .u64 0, .int .u64 0, .int .u64 0, .int .u64 0]) 24), (bg, Obj.cells (gl p q g h).toArray 26)]) (fun i => n - i) (fun i => i ≤ n ∧ xFy p (up (zsP f k) i)) 0 ?h0 ?hO ?hR ?hs
 case h0 => exact xAn rfl rfl rfl
 case hO => exact ⟨Nat.zero_le _, fun x hx => nomatch hx⟩
 case hR => exact hR
 case hs =>
  clear hR
  intro i tm w hi ht hR K hK
  obtain ⟨hi, hmay⟩ := hi
  replace hmay := Held.mk hmay
  have g0 : 0 ≤ (i : Int) := by omega
  by_cases hik : i = n
  ·subst hik
   have t1 : ¬ (i : Int) < (i : Int) := by omega
   obtain ⟨rfl, rfl⟩ : r = xHf p (up (zsP f k) i) ∧ e = 0 := by
    rcases hr'.out with ⟨-, h1, h2⟩ | ⟨h1, -, -⟩
    ·exact ⟨h1, h2⟩
    ·exact absurd hmay.out h1
   obtain ⟨P, hP⟩ : ∃ x, xHf p (up (zsP f k) i) = x := ⟨_, rfl⟩
   replace hR := (show Rep _ _ [(blk, Obj.cells (nl (xHf p (up (zsP f k) i))).toArray 24), _, _] _ from hR)
   rw [hP] at hR
   replace hP := Held.mk hP
   clear hK hi hA hN hr' hmay fB kB
   repeat (first | (obtain ⟨x, tm', e, ht'⟩ := xAg ht; clear ht; subst e; have ht := ht'; clear ht') | (obtain ⟨tm', e, ht'⟩ := xAd ht; clear ht; subst e; have ht := ht'; clear ht'))
   obtain rfl := xAl ht
   clear ht
   go_wp2_with (first | (refine' aAq hR ?_; clear hR; intro blk w hR) | (refine' aBq hR ?_; clear hR; intro blk w hR) | (refine' aPq hR ?_) | (refine' aQq hR ?_) | (refine' aRq hR ?_) | (refine' aFq hR ?_; clear hR; intro w hR) | (refine' aGq hR ?_; clear hR; intro w hR) | fail)
   (refine' bodyPost_ret (xAu Tryz.results113 rfl (hR.loadAll (P := Tryz.prog) (ty := 24) ?hm ?hn)) rfl ⟨?_, hR.below⟩; (case hm => first | with_reducible assumption | repeat (first | exact .head _ | with_reducible assumption | apply mC)); (case hn => first | rfl | simp))
   rw [hP.out]
   rfl
  ·have hin : i < n := by omega
   have g1 : (i : Int) < (n : Int) := by omega
   obtain ⟨bb, off, rfl, hx⟩ := hA.out.at' (by omega)
   obtain ⟨bc, ofc, rfl, hy⟩ := hN.out.at' (by omega)
   have ld1 := fun (L : List (Nat × Obj)) (w' : World) (hw : Rep W.heap.size W L w') => xBt (hx w' (hw.weaken (List.nil_sublist _)) i hin)
   have ld2 := fun (L : List (Nat × Obj)) (w' : World) (hw : Rep W.heap.size W L w') => xBt (hy w' (hw.weaken (List.nil_sublist _)) i hin)
   obtain ⟨x, hxe⟩ : ∃ x, f i = x := ⟨_, rfl⟩
   obtain ⟨y, hye⟩ : ∃ y, k i = y := ⟨_, rfl⟩
   have lx : x < B := by rw [← hxe]; exact fB.out i hin
   have ly : y < B := by rw [← hye]; exact kB.out i hin
   rw [hxe] at ld1
   rw [hye] at ld2
   have hz : (zsP f k i).1 = (x, y) := by rw [zsP_is (fB.out i hin) (kB.out i hin), hxe, hye]
   have lP : xHf p (up (zsP f k) i) < p := prodL_lt hb1 _
   have hsuc : xHf p (up (zsP f k) (i + 1)) = mulN (xHf p (up (zsP f k) i)) (powN x y p) p := by
    rw [up_succ, xIh, stepP_def, hz]
   have hmem : zsP f k i ∈ up (zsP f k) n := by
    unfold up
    exact List.mem_map.2 ⟨i, List.mem_range.2 hin, rfl⟩
   have hone : mayG p x → xFy p (up (zsP f k) (i + 1)) := fun hm => by
    rw [up_succ]
    exact xJe hmay.out (by rw [hz]; exact hm)
   obtain ⟨P', hP'⟩ : ∃ x, xHf p (up (zsP f k) (i + 1)) = x := ⟨_, rfl⟩
   obtain ⟨P, hP⟩ : ∃ x, xHf p (up (zsP f k) i) = x := ⟨_, rfl⟩
   rw [hP, hP'] at hsuc
   rw [hP] at lP
   replace hR := (show Rep _ _ [(blk, Obj.cells (nl (xHf p (up (zsP f k) i))).toArray 24), _, _] _ from hR)
   rw [hP] at hR
   by_cases hx1 : mayG p x
   case neg =>
    have m1 := rmay_lit (q := q) (g := g) (h := h) hp lx (decide_eq_false hx1)
    obtain ⟨rfl, rfl⟩ : r = 0 ∧ e = 1 := by
     rcases hr'.out with ⟨h1, -, -⟩ | ⟨-, h1, h2⟩
     ·exact absurd (h1 _ hmem) (by rw [hz]; exact hx1)
     ·exact ⟨h1, h2⟩
    clear hK hi hA hN hr' hmay fB kB hik hin hx hy hxe hye lx ly hz lP hsuc hmem hone hP hP' hx1 ep
    repeat (first | (obtain ⟨x, tm', e, ht'⟩ := xAg ht; clear ht; subst e; have ht := ht'; clear ht') | (obtain ⟨tm', e, ht'⟩ := xAd ht; clear ht; subst e; have ht := ht'; clear ht'))
    obtain rfl := xAl ht
    clear ht
    go_wp2_with (first | (refine' aAq hR ?_; clear hR; intro blk w hR) | (refine' aBq hR ?_; clear hR; intro blk w hR) | (refine' aPq hR ?_) | (refine' aQq hR ?_) | (refine' aRq hR ?_) | (refine' aFq hR ?_; clear hR; intro w hR) | (refine' aGq hR ?_; clear hR; intro w hR) | fail)
    refine xAe hR [0, 0, 0, 0, 0, 0, 0] [] xBo (by kernel_rfl) rfl rfl (fun K hK => ?_)
    clear hR
    repeat ((first | (refine xAy ?_) | (refine' xAk (by decide) rfl (.inl rfl) rfl ?ha ?_) | (refine' xAk (by decide) rfl (.inr rfl) rfl ?ha ?_) | (refine' aSq ?ha ?_) | (refine' aTq ?ha ?_) | (refine' aUq ?ha ?_) | (refine' aVq ?ha ?_) | (refine' aWq ?ha ?_) | ((first | refine' xAc (by decide) rfl rfl rfl rfl (fun w => ?hq) ?ha ?_ | refine' xAs (by decide) rfl rfl rfl rfl (fun w => ?hq) ?ha ?_ | refine' xAi (by decide) rfl rfl rfl (fun w => ?hq) ?ha ?_ | refine' xAb (by decide) rfl rfl rfl (fun w => ?hq) ?ha ?_ | refine' xAh (by decide) rfl rfl rfl (fun w => ?hq) ?ha ?_ | refine' xAq (by decide) rfl rfl rfl rfl (fun w => ?hq) ?ha ?_ | refine' xAr (by decide) rfl rfl rfl rfl rfl rfl (fun w => ?hq) ?ha ?_ | refine' xAo (by decide) rfl rfl (fun w => ?hq) ?ha ?_ | refine' xAj (by decide) rfl rfl rfl (fun w => ?hq) ?ha ?_ | refine' xAp (by decide) rfl rfl rfl (fun w => ?hq) ?ha ?_); (case hq => go_simp; try rfl)) | (refine' xAf (by decide) rfl rfl rfl ?ha ?_) | (refine' xAx (by decide) rfl rfl rfl rfl ?ha ?_) | (refine' xAw (by decide) rfl ?ha ?_) | (refine' xBl rfl rfl rfl (fun w' hw => ld1 _ w' hw) ?ha ?_; (case ha => simp only [kP, kQ, kA, kB]; try rfl)) | (refine' xAt rfl rfl rfl (xAv Tryz.func112 (by kernel_rfl) (by kernel_rfl) _) (fun w => m1 w) ?ha ?_) | (refine' xFi (by decide) rfl rfl rfl (fun w => ?hq) ?ha ?_; (case hq => go_simp; try rfl))); try (case ha => simp only [kP, kQ, kA, kB]; try rfl))
    refine xBb (hK _ _ ?_)
    clear hK K
    refine xBe (fun Q hQ => ?_)
    try simp only [List.nil_append, List.cons_append]
    repeat ((first | refine' xAm rfl (.inl rfl) rfl ?hk ?ha ?_ | refine' xAm rfl (.inr rfl) rfl ?hk ?ha ?_ | (refine' aMq ?hk ?ha ?_) | (refine' aNq ?hk ?ha ?_) | (refine' aOq ?hk ?ha ?_) | (refine' xAz rfl (fun w => ?hq) ?hk ?ha ?_; (case hq => go_simp; try rfl))); (case hk => intro p hp; first | exact absurd hp List.not_mem_nil | (obtain rfl := List.mem_singleton.1 hp; repeat (first | exact List.Mem.head _ | with_reducible assumption | apply mC))); (case ha => simp only [kP, kQ, kA, kB]; try rfl))
    refine xBd (fun w hR => hQ _ _ ?_)
    clear hQ Q
    go_wp2_with (first | (refine' aAq hR ?_; clear hR; intro blk w hR) | (refine' aBq hR ?_; clear hR; intro blk w hR) | (refine' aPq hR ?_) | (refine' aQq hR ?_) | (refine' aRq hR ?_) | (refine' aFq hR ?_; clear hR; intro w hR) | (refine' aGq hR ?_; clear hR; intro w hR) | fail)
    (refine' bodyPost_ret (xAu Tryz.results113 rfl (hR.loadAll (P := Tryz.prog) (ty := 24) ?hm ?hn)) rfl ⟨?_, hR.below⟩; (case hm => first | with_reducible assumption | repeat (first | exact .head _ | with_reducible assumption | apply mC)); (case hn => first | rfl | simp))
    rw [z_num]
    rfl
   case pos =>
    have m1 := rmay_lit (q := q) (g := g) (h := h) hp lx (decide_eq_true hx1)
    obtain ⟨X, hX⟩ : ∃ X, powN x y p = X := ⟨_, rfl⟩
    have lX : X < p := by rw [← hX]; exact pow_lt' hb1 _ _
    have x1 := fun w => ref04_exp x y p lx ly hp w
    rw [if_pos ⟨hb1, hx1.2.2⟩, if_pos ⟨hb1, hx1.2.2⟩, hX] at x1
    have x2 := fun w => ref04_mul P X p (Nat.lt_trans lP hp) (Nat.lt_trans lX hp) hp w
    rw [if_pos ⟨hb1, lP, lX⟩, if_pos ⟨hb1, lP, lX⟩, ← hX, ← hsuc] at x2
    rw [hX] at x2
    have hnext := hone hx1
    have ei : IntKind.i64.wrap ((i : Int) + 1) = ((i + 1 : Nat) : Int) := by rw [IntKind.wrap_i64]; omega
    have hi1 : i + 1 ≤ n := by omega
    have hmu : n - (i + 1) < n - i := by omega
    replace hi1 := Held.mk hi1
    replace hmu := Held.mk hmu
    replace hnext := Held.mk hnext
    replace hP' := Held.mk hP'
    clear hi hA hN hr' hmay fB kB hik hin hx hy hxe hye lx ly hz lP hsuc hmem hone hP hx1 ep hX lX
    repeat (first | (obtain ⟨x, tm', e, ht'⟩ := xAg ht; clear ht; subst e; have ht := ht'; clear ht') | (obtain ⟨tm', e, ht'⟩ := xAd ht; clear ht; subst e; have ht := ht'; clear ht'))
    obtain rfl := xAl ht
    clear ht
    go_wp2_with (first | (refine' aAq hR ?_; clear hR; intro blk w hR) | (refine' aBq hR ?_; clear hR; intro blk w hR) | (refine' aPq hR ?_) | (refine' aQq hR ?_) | (refine' aRq hR ?_) | (refine' aFq hR ?_; clear hR; intro w hR) | (refine' aGq hR ?_; clear hR; intro w hR) | fail)
    refine xAe hR [0, 0, 0, 0, 0, 0, 0] [] xBo (by kernel_rfl) rfl rfl (fun K hK => ?_)
    clear hR
    repeat ((first | (refine xAy ?_) | (refine' xAk (by decide) rfl (.inl rfl) rfl ?ha ?_) | (refine' xAk (by decide) rfl (.inr rfl) rfl ?ha ?_) | (refine' aSq ?ha ?_) | (refine' aTq ?ha ?_) | (refine' aUq ?ha ?_) | (refine' aVq ?ha ?_) | (refine' aWq ?ha ?_) | ((first | refine' xAc (by decide) rfl rfl rfl rfl (fun w => ?hq) ?ha ?_ | refine' xAs (by decide) rfl rfl rfl rfl (fun w => ?hq) ?ha ?_ | refine' xAi (by decide) rfl rfl rfl (fun w => ?hq) ?ha ?_ | refine' xAb (by decide) rfl rfl rfl (fun w => ?hq) ?ha ?_ | refine' xAh (by decide) rfl rfl rfl (fun w => ?hq) ?ha ?_ | refine' xAq (by decide) rfl rfl rfl rfl (fun w => ?hq) ?ha ?_ | refine' xAr (by decide) rfl rfl rfl rfl rfl rfl (fun w => ?hq) ?ha ?_ | refine' xAo (by decide) rfl rfl (fun w => ?hq) ?ha ?_ | refine' xAj (by decide) rfl rfl rfl (fun w => ?hq) ?ha ?_ | refine' xAp (by decide) rfl rfl rfl (fun w => ?hq) ?ha ?_); (case hq => go_simp; try rfl)) | (refine' xAf (by decide) rfl rfl rfl ?ha ?_) | (refine' xAx (by decide) rfl rfl rfl rfl ?ha ?_) | (refine' xAw (by decide) rfl ?ha ?_) | (refine' xBl rfl rfl rfl (fun w' hw => ld1 _ w' hw) ?ha ?_; (case ha => simp only [kP, kQ, kA, kB]; try rfl)) | (refine' xAt rfl rfl rfl (xAv Tryz.func112 (by kernel_rfl) (by kernel_rfl) _) (fun w => m1 w) ?ha ?_) | (refine' xFi (by decide) rfl rfl rfl (fun w => ?hq) ?ha ?_; (case hq => go_simp; try rfl))); try (case ha => simp only [kP, kQ, kA, kB]; try rfl))
    refine xBb (hK _ _ ?_)
    clear hK K
    refine xBe (fun Q hQ => ?_)
    try simp only [List.nil_append, List.cons_append]
    repeat ((first | refine' xAm rfl (.inl rfl) rfl ?hk ?ha ?_ | refine' xAm rfl (.inr rfl) rfl ?hk ?ha ?_ | (refine' aMq ?hk ?ha ?_) | (refine' aNq ?hk ?ha ?_) | (refine' aOq ?hk ?ha ?_) | (refine' xAz rfl (fun w => ?hq) ?hk ?ha ?_; (case hq => go_simp; try rfl))); (case hk => intro p hp; first | exact absurd hp List.not_mem_nil | (obtain rfl := List.mem_singleton.1 hp; repeat (first | exact List.Mem.head _ | with_reducible assumption | apply mC))); (case ha => simp only [kP, kQ, kA, kB]; try rfl))
    refine xBd (fun w hR => hQ _ _ ?_)
    clear hQ Q
    go_wp2_with (first | (refine' aAq hR ?_; clear hR; intro blk w hR) | (refine' aBq hR ?_; clear hR; intro blk w hR) | (refine' aPq hR ?_) | (refine' aQq hR ?_) | (refine' aRq hR ?_) | (refine' aFq hR ?_; clear hR; intro w hR) | (refine' aGq hR ?_; clear hR; intro w hR) | fail)
    refine' xCb hR [1, 1, 1, 1, 1, 1, 1, 1, 1, 1, 1, 1, 1, 1, 2, 2, 2] 14 10 _ _ [15, 16] xBo (by kernel_rfl) rfl rfl rfl rfl rfl (xEr rfl rfl ?z1) ?_
    case z1 => exact inferInstance
    intro K hK
    clear hR
    repeat ((first | (refine' hd_loadKP rfl rfl rfl ld1 ?ha ?_) | (refine' hd_loadKP rfl rfl rfl ld2 ?ha ?_) | (refine xAy ?_) | (refine' xAk (by decide) rfl (.inl rfl) rfl ?ha ?_) | (refine' xAk (by decide) rfl (.inr rfl) rfl ?ha ?_) | (refine' aSq ?ha ?_) | (refine' aTq ?ha ?_) | (refine' aUq ?ha ?_) | (refine' xCh rfl rfl rfl inferInstance ?hm ?hn ?ha ?_; (case hm => first | with_reducible assumption | repeat (first | exact .head _ | with_reducible assumption | apply mC)); (case hn => first | rfl | simp)) | (refine' aVq ?ha ?_) | (refine' aWq ?ha ?_) | ((first | refine' xAc (by decide) rfl rfl rfl rfl (fun w => ?hq) ?ha ?_ | refine' xAs (by decide) rfl rfl rfl rfl (fun w => ?hq) ?ha ?_ | refine' xAi (by decide) rfl rfl rfl (fun w => ?hq) ?ha ?_ | refine' xAb (by decide) rfl rfl rfl (fun w => ?hq) ?ha ?_ | refine' xAh (by decide) rfl rfl rfl (fun w => ?hq) ?ha ?_ | refine' xAq (by decide) rfl rfl rfl rfl (fun w => ?hq) ?ha ?_ | refine' xAr (by decide) rfl rfl rfl rfl rfl rfl (fun w => ?hq) ?ha ?_ | refine' xAo (by decide) rfl rfl (fun w => ?hq) ?ha ?_ | refine' xAj (by decide) rfl rfl rfl (fun w => ?hq) ?ha ?_ | refine' xAp (by decide) rfl rfl rfl (fun w => ?hq) ?ha ?_); (case hq => go_simp; try rfl)) | (refine' xAf (by decide) rfl rfl rfl ?ha ?_) | (refine' xAx (by decide) rfl rfl rfl rfl ?ha ?_) | (refine' xAw (by decide) rfl ?ha ?_) | (refine' xBx rfl rfl rfl (xAv Tryz.func187 (by kernel_rfl) (by kernel_rfl) _) (fun w => x1 w) ?ha ?_)); try (case ha => simp only [kP, kQ, kA, kB]; try rfl))
    try simp only [List.nil_append, List.cons_append]
    refine xBb (hK _ _ (fun _ => ?_))
    clear hK K
    refine xBe (fun Q hQ => ?_)
    simp only [kP, kQ, kA, kB]
    repeat ((first | refine' xAm rfl (.inl rfl) rfl ?hk ?ha ?_ | refine' xAm rfl (.inr rfl) rfl ?hk ?ha ?_ | (refine' aMq ?hk ?ha ?_) | (refine' aNq ?hk ?ha ?_) | (refine' aOq ?hk ?ha ?_) | (refine' xAz rfl (fun w => ?hq) ?hk ?ha ?_; (case hq => go_simp; try rfl))); (case hk => intro p hp; repeat (first | exact hp | apply mT)); (case ha => simp only [kP, kQ, kA, kB]; try rfl))
    refine xBd (fun w hR => hQ _ _ ?_)
    clear hQ Q
    go_wp2_with (first | (refine' aAq hR ?_; clear hR; intro blk w hR) | (refine' aBq hR ?_; clear hR; intro blk w hR) | (refine' aPq hR ?_) | (refine' aQq hR ?_) | (refine' aRq hR ?_) | (refine' aFq hR ?_; clear hR; intro w hR) | (refine' aGq hR ?_; clear hR; intro w hR) | (go_at_call 180; refine (x2 _).mono ?_; rintro e w ⟨rfl, hb⟩; replace hR := hR.call hb; clear hb))
    refine hK.out (i + 1) _ _ ⟨hi1.out, hnext.out⟩ hmu.out (xAn rfl rfl rfl) ?_
    rw [hP'.out]
    exact hR.weaken (List.sublist_cons_self _ _)
end
end
end Go.Proofs.YtaaahfjpnggkbaaGreatDoor
