/- The contract of duals.Check. -/
import Derived.Test.YtgfoeongjhkdmaaUK
import Derived.Test.YtgfoeongjhkdmaaUZ
import Derived.Test.YtgfoeongjhkdmaaUV
import Derived.Test.YtgfoeongjhkdmaaUY
import Derived.Test.YtgfoeongjhkdmaaUN
set_option linter.unusedVariables false
set_option linter.unusedSimpArgs false
namespace Go.Proofs.Ytgfoeongjhkdmaa
open Go.RowKit
attribute [local irreducible] Calls Instr.build Instr.buildSlice Instr.makeSlice
theorem xCh {P : Program} {ops : Array Oper} {rest : List Oper} {o : Oper} {a : Act} {w : World} {Q : Exit → Act → World → Prop} (hg : o.guard = none) {t : TypeId} (hop : o.op = .build t #[]) {v : Value}
    (hrun : ∀ w, (Instr.build t #[]).run P w = .ok v w) (h : wpList P ops Q rest (a.put o.dst v) w) : wpList P ops Q (o :: rest) a w :=
  wpList_plain hg fun _ hK => by
    unfold Oper.wp execOp
    simp only [hop, List.map_toArray, List.map_nil, hrun, Sem.run_bind, Result.andThen_ok, Sem.run_pure]
    exact hK _ _ h
theorem build_Z (w : World) : (Instr.build 24 #[]).run Try.prog w = .ok (.agg (nl 0).toArray) w := by
  rw [← nl_zero]
  kernel_rfl
theorem build_stop (w : World) : (Instr.build 99 #[(0, .int .i64 0)]).run Try.prog w = .ok (.agg #[.int .i64 0]) w := by kernel_rfl
noncomputable def zsC (V W : Nat → Nat) (j : Nat) : Pair := if h : V j < B ∧ W j < B then ⟨(V j, W j), h⟩ else ⟨(0, 0), B_pos, B_pos⟩
theorem zsC_1 {V W : Nat → Nat} {j : Nat} (h1 : V j < B) (h2 : W j < B) : (zsC V W j).1 = (V j, W j) := by unfold zsC; rw [dif_pos ⟨h1, h2⟩]
noncomputable def ckT (p q n : Nat) (V : Nat → Nat) (kk : Nat) : Nat := prodL p (up (zsC V (wordF q n (kk + 1) (mono q kk))) n)
def ckAll (p q n : Nat) (V : Nat → Nat) (k : Nat) : Prop := ∀ kk, kk < n - k → ckT p q n V kk = 1
noncomputable def cL (p q g h n cp : Nat) (a : Option Addr) (k : Nat) (b5 b4 b3 : Nat) : List (Nat × Obj) := [(b5, .cells [.int .i64 (k : Int)].toArray 3), (b4, .cells [.slice a n cp].toArray 27), (b3, .cells (gl p q g h).toArray 26)]
section
variable {B0 : Nat} {w0 w W : World} {L : List (Nat × Obj)} {p q g h n cp k : Nat} {a : Option Addr} {V : Nat → Nat}
theorem prod_ckT (hp : p < B) (hq : q < B) (h1 : 1 < p) (hq1 : 1 < q) (hA : NAt B0 w0 L a n cp V) {aw : Option Addr} {cw : Nat} {kk : Nat} (hW : NAt B0 w0 L aw n cw (wordF q n (kk + 1) (mono q kk))) (hn : n ≤ 1000) (hm : ∀ j, j < n → mayG p (V j)) (hR : Rep B0 w0 L w) :
    Calls Try.prog 69 #[grp p q g h, .slice a n cp, .slice aw n cw] w fun e w' => e = .returned (.tuple #[num (ckT p q n V kk), .int .i64 0]) ∧ Rep B0 w0 L w' := by
  have z1 : ∀ j, j < n → (zsC V (wordF q n (kk + 1) (mono q kk)) j).1 = (V j, wordF q n (kk + 1) (mono q kk) j) := fun j hj => zsC_1 (hA.lt j hj) (Nat.lt_trans (wordF_lt hq1 j) hq)
  have nA := hA.nums hR
  have nW := hW.nums hR
  have nA' : NumsAt w a n fun j => (zsC V (wordF q n (kk + 1) (mono q kk)) j).1.1 := ⟨fun h0 => by
    obtain ⟨b, o, e1, e2, e3⟩ := nA.at' h0
    exact ⟨b, o, e1, e2, fun j hj => by rw [z1 j hj]; exact e3 j hj⟩⟩
  have nW' : NumsAt w aw n fun j => (zsC V (wordF q n (kk + 1) (mono q kk)) j).1.2 := ⟨fun h0 => by
    obtain ⟨b, o, e1, e2, e3⟩ := nW.at' h0
    exact ⟨b, o, e1, e2, fun j hj => by rw [z1 j hj]; exact e3 j hj⟩⟩
  have hall : mayAll p (up (zsC V (wordF q n (kk + 1) (mono q kk))) n) := fun x hx => by
    unfold up at hx
    obtain ⟨j, hj, rfl⟩ := List.mem_map.1 hx
    rw [z1 j (List.mem_range.1 hj)]
    exact hm j (List.mem_range.1 hj)
  refine (product_go (g := g) (h := h) hp hq h1 a aw n cp cw _ (by omega) w nA' nW').mono fun e w' ⟨h1, h2⟩ => ⟨?_, hR.call h2⟩
  rcases h1 with ⟨_, h1⟩ | ⟨h1, _⟩
  · exact h1
  · exact absurd hall h1
set_option maxRecDepth 100000 in
set_option maxHeartbeats 8000000 in
theorem check1_any (hp : p < B) (hq : q < B) (h1 : 1 < p) (hq1 : 1 < q) (hA : NAt B0 w0 [] a n cp V) (hm : ∀ j, j < n → mayG p (V j)) (hd : difOK q n) (hn1 : 1 ≤ n) (hn7 : n ≤ 7) (hk1 : 1 ≤ k) (hkn : k ≤ n) {b5 b4 b3 : Nat} (M : List (Nat × Obj)) (hM : ∀ x ∈ M, x.2.isCells = true) (hR : Rep B0 w0 (M ++ cL p q g h n cp a k b5 b4 b3) w) :
    Calls Try.prog 68 #[.pointer (some ⟨b4, 0, none⟩), .pointer (some ⟨b3, 0, none⟩), .pointer (some ⟨b5, 0, none⟩)] w fun e w' => ((ckAll p q n V k ∧ e = .returned (.tuple #[])) ∨ (¬ ckAll p q n V k ∧ e = .panicked [{ v := .iface 99 (.agg #[.int .i64 0]), recovered := false }])) ∧ Rep B0 w0 (M ++ cL p q g h n cp a k b5 b4 b3) w' := by
  have m5 : (b5, Obj.cells [Value.int .i64 (k : Int)].toArray 3) ∈ M ++ cL p q g h n cp a k b5 b4 b3 := List.mem_append_right _ (.head _)
  have m4 : (b4, Obj.cells [Value.slice a n cp].toArray 27) ∈ M ++ cL p q g h n cp a k b5 b4 b3 := List.mem_append_right _ (.tail _ (.head _))
  have m3 : (b3, Obj.cells (gl p q g h).toArray 26) ∈ M ++ cL p q g h n cp a k b5 b4 b3 := List.mem_append_right _ (.tail _ (.tail _ (.head _)))
  obtain ⟨LL, hLL⟩ : ∃ LL, M ++ cL p q g h n cp a k b5 b4 b3 = LL := ⟨_, rfl⟩
  rw [hLL] at hR m5 m4 m3 ⊢
  clear hLL hM
  replace hA := Held.mk hA
  replace hm := Held.mk hm
  replace hd := Held.mk hd
  go_enter Try.func68, Try.ntmps68
  go_wp2_with (first | (refine' xAb hR rfl rfl rfl ?_; clear hR; intro blk w hR) | (refine' xAa hR rfl rfl inferInstance ?_; clear hR; intro blk w hR) | (refine' aFq hR rfl rfl rfl inferInstance ?_) | (refine' aGq hR rfl rfl rfl inferInstance ?_) | (refine' aHq hR rfl rfl rfl inferInstance ?_) | (refine' aIq hR rfl rfl rfl inferInstance rfl ?_; clear hR; intro w hR) | (refine' aJq hR rfl rfl rfl inferInstance rfl rfl ?_; clear hR; intro w hR) | fail)
  try simp only [Act.put, kA, kB, List.setIfInBounds_toArray]
  refine' xBt (false :: false :: false :: false :: true :: false :: false :: false :: false :: false :: false :: false :: true :: true :: true :: true :: true :: true :: true :: true :: true :: true :: true :: false :: false :: false :: false :: false :: false :: false :: false :: false :: false :: false :: false :: false :: false :: false :: false :: false :: false :: false :: false :: false :: false :: false :: false :: false :: false :: false :: false :: false :: false :: false :: false :: false :: false :: false :: false :: false :: false :: false :: []) (fun (v : Nat) l => l.set 11 (.int .i64 (v : Int))) (fun v => LL) (fun v => n - v) (fun v => v ≤ n) 0 ?h0 ?hO ?hR ?hs
  case h0 => exact xBh rfl rfl rfl
  case hO => exact Nat.zero_le _
  case hR => exact hR
  case hs =>
    clear hR
    intro i tm w hi ht hR K hK
    have g0 : 0 ≤ (i : Int) := by omega
    by_cases hik : i = n
    case neg =>
      have t1 : (i : Int) < (n : Int) := by omega
      have hin : i < n := by omega
      have hi1 : i + 1 ≤ n := by omega
      have hmu : n - (i + 1) < n - i := by omega
      have ei : IntKind.i64.wrap ((i : Int) + 1) = (i : Int) + 1 := by rw [IntKind.wrap_i64]; omega
      have ek : ((i + 1 : Nat) : Int) = (i : Int) + 1 := by omega
      obtain ⟨bv, ov, rfl, hyv⟩ := hA.out.at' (by omega)
      have ldv := fun (L : List (Nat × Obj)) (w : World) (hw : Rep B0 w0 L w) => xCj (hyv w (hw.weaken (List.nil_sublist _)) i hin)
      have lv := hA.out.lt i hin
      have mv := hm.out i hin
      obtain ⟨vv, hvv⟩ : ∃ v, V i = v := ⟨_, rfl⟩
      rw [hvv] at ldv lv mv
      obtain ⟨rr, hrr⟩ : ∃ v, powN vv 0 p = v := ⟨_, rfl⟩
      have cE := gexp_lit (p := p) (q := q) (g := g) (h := h) (n := 0) (e := 0) hp lv (lt_B (by decide)) (show (if mayG p vv then powN vv 0 p else 0) = rr by rw [if_pos mv]; exact hrr) (if_pos mv)
      have cM := fun w => must_ok rr w
      replace ek := Held.mk ek
      replace hi1 := Held.mk hi1
      replace hmu := Held.mk hmu
      clear hi hik hyv hvv hrr mv hin hA hm hd
      repeat (first | (obtain ⟨x, tm', e, ht'⟩ := xAu ht; clear ht; subst e; have ht := ht'; clear ht') | (obtain ⟨tm', e, ht'⟩ := xAj ht; clear ht; subst e; have ht := ht'; clear ht'))
      obtain rfl := xAz ht
      clear ht
      go_wp2_with (first | (refine' xAb hR rfl rfl rfl ?_; clear hR; intro blk w hR) | (refine' xAa hR rfl rfl inferInstance ?_; clear hR; intro blk w hR) | (refine' aFq hR rfl rfl rfl inferInstance ?_) | (refine' aGq hR rfl rfl rfl inferInstance ?_) | (refine' aHq hR rfl rfl rfl inferInstance ?_) | (refine' aIq hR rfl rfl rfl inferInstance rfl ?_; clear hR; intro w hR) | (refine' aJq hR rfl rfl rfl inferInstance rfl rfl ?_; clear hR; intro w hR) | (refine' xCh rfl rfl build_Z ?_) | (refine' xCl rfl rfl rfl (ldv _ _ hR) ?_) | (go_at_call 67; refine (cE _).mono ?_; rintro e w ⟨rfl, hb⟩; replace hR := hR.call hb; clear hb) | (go_at_call 63; refine (cM _).mono ?_; rintro e w ⟨rfl, hb⟩; replace hR := hR.call hb; clear hb))
      refine hK.out (i + 1) _ _ hi1.out hmu.out (by simp only [ek.out]; exact xBh rfl rfl rfl) ?_
      exact hR.drop1
    subst hik
    have t1 : ¬ (i : Int) < (i : Int) := by omega
    have esub : IntKind.i64.wrap ((i : Int) - (k : Int)) = ((i - k : Nat) : Int) := by rw [IntKind.wrap_i64]; omega
    clear hK hi
    repeat (first | (obtain ⟨x, tm', e, ht'⟩ := xAu ht; clear ht; subst e; have ht := ht'; clear ht') | (obtain ⟨tm', e, ht'⟩ := xAj ht; clear ht; subst e; have ht := ht'; clear ht'))
    obtain rfl := xAz ht
    clear ht
    go_wp2_with (first | (refine' xAb hR rfl rfl rfl ?_; clear hR; intro blk w hR) | (refine' xAa hR rfl rfl inferInstance ?_; clear hR; intro blk w hR) | (refine' aFq hR rfl rfl rfl inferInstance ?_) | (refine' aGq hR rfl rfl rfl inferInstance ?_) | (refine' aHq hR rfl rfl rfl inferInstance ?_) | (refine' aIq hR rfl rfl rfl inferInstance rfl ?_; clear hR; intro w hR) | (refine' aJq hR rfl rfl rfl inferInstance rfl rfl ?_; clear hR; intro w hR) | fail)
    try simp only [Act.put, kA, kB, List.setIfInBounds_toArray]
    refine' xBt (false :: false :: false :: false :: false :: true :: true :: true :: true :: false :: false :: false :: false :: false :: false :: false :: false :: false :: false :: false :: false :: false :: false :: false :: false :: false :: false :: false :: true :: true :: true :: true :: true :: true :: true :: true :: true :: true :: true :: true :: true :: true :: true :: true :: true :: true :: true :: true :: true :: true :: true :: true :: true :: true :: true :: true :: true :: true :: true :: true :: true :: true :: []) (fun (v : Nat) l => l.set 27 (.int .i64 (v : Int))) (fun v => LL) (fun v => (i - k) - v) (fun v => v ≤ i - k ∧ ∀ kk, kk < v → ckT p q i V kk = 1) 0 ?u0 ?uO ?uR ?us
    case u0 => exact xBh rfl rfl rfl
    case uO => exact ⟨Nat.zero_le _, fun kk h => absurd h (Nat.not_lt_zero kk)⟩
    case uR => exact hR
    case us =>
      clear hR
      intro j tm w hj ht hR K hK
      obtain ⟨hj, hall⟩ := hj
      have g1 : 0 ≤ (j : Int) := by omega
      by_cases hjk : j = i - k
      · rw [hjk] at ht hall
        have u1 : ¬ ((i - k : Nat) : Int) < ((i - k : Nat) : Int) := by omega
        clear hK
        replace hall := Held.mk hall
        repeat (first | (obtain ⟨x, tm', e, ht'⟩ := xAu ht; clear ht; subst e; have ht := ht'; clear ht') | (obtain ⟨tm', e, ht'⟩ := xAj ht; clear ht; subst e; have ht := ht'; clear ht'))
        obtain rfl := xAz ht
        clear ht
        go_wp2_with (first | (refine' xAb hR rfl rfl rfl ?_; clear hR; intro blk w hR) | (refine' xAa hR rfl rfl inferInstance ?_; clear hR; intro blk w hR) | (refine' aFq hR rfl rfl rfl inferInstance ?_) | (refine' aGq hR rfl rfl rfl inferInstance ?_) | (refine' aHq hR rfl rfl rfl inferInstance ?_) | (refine' aIq hR rfl rfl rfl inferInstance rfl ?_; clear hR; intro w hR) | (refine' aJq hR rfl rfl rfl inferInstance rfl rfl ?_; clear hR; intro w hR) | fail)
        go_end0
        exact ⟨.inl ⟨hall.out, rfl⟩, hR⟩
      · have u1 : (j : Int) < ((i - k : Nat) : Int) := by omega
        have ej : IntKind.i64.wrap ((j : Int) + 1) = ((j + 1 : Nat) : Int) := by rw [IntKind.wrap_i64]; omega
        have hjM : j + 1 ≤ 1000000 := by omega
        have hj1 : j + 1 ≤ i - k := by omega
        have hmu : (i - k) - (j + 1) < (i - k) - j := by omega
        have v1 : 0 ≤ ((j + 1 : Nat) : Int) := by omega
        have v2 : (j : Int) < ((j + 1 : Nat) : Int) := by omega
        have hji : j + 1 < i := by omega
        obtain ⟨o1, ho1⟩ : ∃ v, sOf q 1 = v := ⟨_, rfl⟩
        have cO := SO (p := p) (g := g) (h := h) (n := 1) hq (by decide) (by decide) ho1
        have hset : ∀ t, t < j + 1 → mono q j t = if t = j then o1 else 0 := fun t ht => by
          unfold mono
          by_cases h2 : t = j
          · rw [if_pos h2, if_neg (by omega), ho1]
          · rw [if_neg h2, if_pos (by omega)]
        have hrs := rowsN_set (f := fun _ => 0) (f' := mono q j) (n := j + 1) (i := j) (v := o1) (by omega) hset
        have hlen : j * 4 + 4 ≤ (xCg (fun _ => 0) (j + 1)).length := by rw [xBs]; omega
        have cW := fun (gp : Nat) (w : World) (hw : Rep B0 w0 ((gp, Obj.cells (xCg (mono q j) (j + 1)).toArray 24) :: LL) w) => word_yes (g := g) (h := h) hp hq hq1 ((rowsN_own (f := mono q j) (n := j + 1) hjM).at (B0 := B0) (w0 := w0) (.head _) (Nat.le_refl _) (fun t _ => Nat.lt_trans (mono_lt hq1 j t) hq)) (fun t _ => mono_lt hq1 j t) hd.out hn1 hn7 hji hw
        have cM := fun w => must_ok 0 w
        replace hrs := Held.mk hrs
        replace hlen := Held.mk hlen
        replace hset := Held.mk hset
        replace hall := Held.mk hall
        replace hj1 := Held.mk hj1
        replace hmu := Held.mk hmu
        replace hji := Held.mk hji
        clear hj hjk
        repeat (first | (obtain ⟨x, tm', e, ht'⟩ := xAu ht; clear ht; subst e; have ht := ht'; clear ht') | (obtain ⟨tm', e, ht'⟩ := xAj ht; clear ht; subst e; have ht := ht'; clear ht'))
        obtain rfl := xAz ht
        clear ht
        go_wp2_with (first | (refine' xAb hR rfl rfl rfl ?_; clear hR; intro blk w hR) | (refine' xAa hR rfl rfl inferInstance ?_; clear hR; intro blk w hR) | (refine' aFq hR rfl rfl rfl inferInstance ?_) | (refine' aGq hR rfl rfl rfl inferInstance ?_) | (refine' aHq hR rfl rfl rfl inferInstance ?_) | (refine' aIq hR rfl rfl rfl inferInstance rfl ?_; clear hR; intro w hR) | (refine' aJq hR rfl rfl rfl inferInstance rfl rfl ?_; clear hR; intro w hR) | (refine' xCh rfl rfl build_Z ?_) | (refine' wpList_new hR (isNew_numsZ rfl rfl rfl rfl hjM) ?_; clear hR; intro gp w hR) | (go_at_call 13; refine (cO _).mono ?_; rintro e w ⟨rfl, hb⟩; replace hR := hR.call hb; clear hb) | (refine' wpList_storeRow (l := xCg (fun _ => 0) (j + 1)) (l' := xCg (mono q j) (j + 1)) (vs := nl o1) hR rfl rfl rfl inferInstance rfl rfl rfl .head hlen.out hrs.out ?_; clear hR; intro w hR) | (go_at_call 42; refine (cW _ _ hR).mono ?_; clear hR; rintro e w ⟨gw, rfl, hR⟩) | (go_at_call 63; refine (cM _).mono ?_; rintro e w ⟨rfl, hb⟩; replace hR := hR.call hb; clear hb))
        obtain ⟨T, hT⟩ : ∃ T, ckT p q i V j = T := ⟨_, rfl⟩
        have lT : T < B := by rw [← hT]; exact Nat.lt_trans (prodL_lt h1 _) hp
        have cP := fun (w : World) (hw : Rep B0 w0 ((gw, Obj.cells (xCg (wordF q i (j + 1) (mono q j)) i).toArray 24) :: (gp, Obj.cells (xCg (mono q j) (j + 1)).toArray 24) :: LL) w) => prod_ckT (g := g) (h := h) hp hq h1 hq1 (hA.out.any (L := (gw, Obj.cells (xCg (wordF q i (j + 1) (mono q j)) i).toArray 24) :: (gp, Obj.cells (xCg (mono q j) (j + 1)).toArray 24) :: LL)) ((rowsN_own (f := wordF q i (j + 1) (mono q j)) (n := i) (by omega)).at (B0 := B0) (w0 := w0) (.head _) (Nat.le_refl _) (fun t _ => Nat.lt_trans (wordF_lt hq1 t) hq)) (by omega) hm.out hw
        rw [hT] at cP
        have cM2 := fun w => must_ok T w
        have e1 : sOf q 1 = 1 := sOf_one hq1
        rw [e1] at ho1
        subst ho1
        replace hT := Held.mk hT
        clear cW cM
        try simp only [Act.put, kA, kB, List.setIfInBounds_toArray]
        by_cases hT1 : T = 1
        · subst hT1
          have eT : eqN 1 1 = true := eqN_yes rfl
          refine xAi hR [0, 0, 0, 0, 0, 0, 0, 0, 0, 0] [] xCf (by kernel_rfl) rfl rfl (fun K hK => ?_)
          clear hR
          repeat ((first | (refine xBl ?_) | (refine' xAr (by decide) rfl (.inl rfl) rfl ?ha ?_) | (refine' xAr (by decide) rfl (.inr rfl) rfl ?ha ?_) | (refine' xAp rfl rfl rfl inferInstance ?hm ?hn ?ha ?_; (case hm => first | with_reducible assumption | repeat (first | exact .head _ | with_reducible assumption | apply mC)); (case hn => first | rfl | simp)) | (refine' xAk rfl rfl rfl inferInstance ?hm ?hv ?hn ?ha ?_; (case hm => first | with_reducible assumption | repeat (first | exact .head _ | with_reducible assumption | apply mC)); (case hv => first | with_reducible assumption | (simp only [kC, kD, kE, kF]; try rfl)); (case hn => first | rfl | simp)) | (refine' xAf rfl rfl rfl inferInstance ?hm ?hv ?ha ?_; (case hm => first | with_reducible assumption | repeat (first | exact .head _ | with_reducible assumption | apply mC)); (case hv => first | rfl | with_reducible assumption)) | (refine' xAl rfl rfl rfl inferInstance ?hm ?hv ?hn ?ha ?_; (case hm => first | with_reducible assumption | repeat (first | exact .head _ | with_reducible assumption | apply mC)); (case hv => first | with_reducible assumption | (simp only [kC, kD, kE, kF]; try rfl)); (case hn => first | rfl | simp)) | (refine' xAe rfl rfl rfl inferInstance ?hm ?hv ?ha ?_; (case hm => first | with_reducible assumption | repeat (first | exact .head _ | with_reducible assumption | apply mC)); (case hv => first | rfl | with_reducible assumption)) | ((first | refine' xAd (by decide) rfl rfl rfl rfl (fun w => ?hq) ?ha ?_ | refine' xBb (by decide) rfl rfl rfl rfl (fun w => ?hq) ?ha ?_ | refine' xAm (by decide) rfl rfl rfl (fun w => ?hq) ?ha ?_ | refine' xAc (by decide) rfl rfl rfl (fun w => ?hq) ?ha ?_ | refine' xAo (by decide) rfl rfl rfl (fun w => ?hq) ?ha ?_ | refine' xBd (by decide) rfl rfl rfl rfl (fun w => ?hq) ?ha ?_ | refine' xBa (by decide) rfl rfl rfl rfl rfl rfl (fun w => ?hq) ?ha ?_ | refine' xBe (by decide) rfl rfl (fun w => ?hq) ?ha ?_ | refine' xAn (by decide) rfl rfl rfl (fun w => ?hq) ?ha ?_ | refine' xBc (by decide) rfl rfl rfl (fun w => ?hq) ?ha ?_); (case hq => go_simp; try rfl)) | (refine' xAg (by decide) rfl rfl rfl ?ha ?_) | (refine' xBk (by decide) rfl rfl rfl rfl ?ha ?_) | (refine' xBm (by decide) rfl ?ha ?_) | (refine' hd_callR rfl rfl rfl (xBi Try.func69 (by kernel_rfl) (by kernel_rfl) _) (fun w hw => cP w hw) ?ha ?_) | (refine' xBj rfl rfl rfl (xBi Try.func63 (by kernel_rfl) (by kernel_rfl) _) (fun w => cM2 w) ?ha ?_) | (refine' xBj rfl rfl rfl (xBi Try.func13 (by kernel_rfl) (by kernel_rfl) _) (fun w => cO w) ?ha ?_)); try (case ha => simp only [kP, kQ, kA, kB]; try rfl))
          refine xBp (hK _ _ ?_)
          clear hK K
          refine xBw (fun Q hQ => ?_)
          try simp only [List.nil_append, List.cons_append]
          repeat ((first | refine' xBf rfl (.inl rfl) rfl ?hk ?ha ?_ | refine' xBf rfl (.inr rfl) rfl ?hk ?ha ?_ | (refine' xAy rfl rfl rfl inferInstance rfl ?hs rfl rfl ?hn ?hk ?ha ?_; (case hs => repeat (first | exact xAw.head | with_reducible assumption | apply xAw.tail)); (case hn => first | rfl | simp)) | (refine' xAt rfl rfl rfl inferInstance rfl rfl ?hs ?hn ?hl ?hk ?ha ?_; (case hs => repeat (first | exact xAw.head | with_reducible assumption | apply xAw.tail)); (case hn => first | exact oD rfl | (show _ < 4; with_reducible assumption) | (simp; try omega)); (case hl => first | with_reducible assumption | (simp only [nl, kA, kB]; first | done | rfl) | rfl)) | (refine' xAx rfl rfl rfl inferInstance rfl rfl ?hvn ?hs ?hn ?hl ?hk ?ha ?_; (case hvn => first | rfl | simp); (case hs => repeat (first | exact xAw.head | with_reducible assumption | apply xAw.tail)); (case hn => first | exact oD rfl | (show _ < 4; with_reducible assumption) | (simp; try omega)); (case hl => first | with_reducible assumption | (simp only [nl, kA, kB]; first | done | rfl) | rfl)) | (refine' xBq rfl (fun w => ?hq) ?hk ?ha ?_; (case hq => go_simp; try rfl))); (case hk => intro p hp; first | exact absurd hp List.not_mem_nil | (obtain rfl := List.mem_singleton.1 hp; repeat (first | exact List.Mem.head _ | with_reducible assumption | apply mC))); (case ha => simp only [kP, kQ, kA, kB]; try rfl))
          refine xBx (fun w hR => hQ _ _ ?_)
          clear hQ Q
          go_wp2_with (first | (refine' xAb hR rfl rfl rfl ?_; clear hR; intro blk w hR) | (refine' xAa hR rfl rfl inferInstance ?_; clear hR; intro blk w hR) | (refine' aFq hR rfl rfl rfl inferInstance ?_) | (refine' aGq hR rfl rfl rfl inferInstance ?_) | (refine' aHq hR rfl rfl rfl inferInstance ?_) | (refine' aIq hR rfl rfl rfl inferInstance rfl ?_; clear hR; intro w hR) | (refine' aJq hR rfl rfl rfl inferInstance rfl rfl ?_; clear hR; intro w hR) | fail)
          refine hK.out (j + 1) _ _ ⟨hj1.out, fun kk hkk => ?_⟩ hmu.out (xBh rfl rfl rfl) hR.drop1.drop1
          by_cases h2 : kk = j
          · rw [h2, hT.out]
          · exact hall.out kk (by omega)
        · have eT : eqN T 1 = false := eqN_no lT (lt_B (by decide)) hT1
          have hno : ¬ ckAll p q i V k := fun hh => hT1 (by rw [← hT.out]; exact hh j (by have := hj1.out; omega))
          replace hno := Held.mk hno
          refine xAi hR [0, 0, 0, 0, 0, 0, 0, 0, 0, 0] [] xCf (by kernel_rfl) rfl rfl (fun K hK => ?_)
          clear hR
          repeat ((first | (refine xBl ?_) | (refine' xAr (by decide) rfl (.inl rfl) rfl ?ha ?_) | (refine' xAr (by decide) rfl (.inr rfl) rfl ?ha ?_) | (refine' xAp rfl rfl rfl inferInstance ?hm ?hn ?ha ?_; (case hm => first | with_reducible assumption | repeat (first | exact .head _ | with_reducible assumption | apply mC)); (case hn => first | rfl | simp)) | (refine' xAk rfl rfl rfl inferInstance ?hm ?hv ?hn ?ha ?_; (case hm => first | with_reducible assumption | repeat (first | exact .head _ | with_reducible assumption | apply mC)); (case hv => first | with_reducible assumption | (simp only [kC, kD, kE, kF]; try rfl)); (case hn => first | rfl | simp)) | (refine' xAf rfl rfl rfl inferInstance ?hm ?hv ?ha ?_; (case hm => first | with_reducible assumption | repeat (first | exact .head _ | with_reducible assumption | apply mC)); (case hv => first | rfl | with_reducible assumption)) | (refine' xAl rfl rfl rfl inferInstance ?hm ?hv ?hn ?ha ?_; (case hm => first | with_reducible assumption | repeat (first | exact .head _ | with_reducible assumption | apply mC)); (case hv => first | with_reducible assumption | (simp only [kC, kD, kE, kF]; try rfl)); (case hn => first | rfl | simp)) | (refine' xAe rfl rfl rfl inferInstance ?hm ?hv ?ha ?_; (case hm => first | with_reducible assumption | repeat (first | exact .head _ | with_reducible assumption | apply mC)); (case hv => first | rfl | with_reducible assumption)) | ((first | refine' xAd (by decide) rfl rfl rfl rfl (fun w => ?hq) ?ha ?_ | refine' xBb (by decide) rfl rfl rfl rfl (fun w => ?hq) ?ha ?_ | refine' xAm (by decide) rfl rfl rfl (fun w => ?hq) ?ha ?_ | refine' xAc (by decide) rfl rfl rfl (fun w => ?hq) ?ha ?_ | refine' xAo (by decide) rfl rfl rfl (fun w => ?hq) ?ha ?_ | refine' xBd (by decide) rfl rfl rfl rfl (fun w => ?hq) ?ha ?_ | refine' xBa (by decide) rfl rfl rfl rfl rfl rfl (fun w => ?hq) ?ha ?_ | refine' xBe (by decide) rfl rfl (fun w => ?hq) ?ha ?_ | refine' xAn (by decide) rfl rfl rfl (fun w => ?hq) ?ha ?_ | refine' xBc (by decide) rfl rfl rfl (fun w => ?hq) ?ha ?_); (case hq => go_simp; try rfl)) | (refine' xAg (by decide) rfl rfl rfl ?ha ?_) | (refine' xBk (by decide) rfl rfl rfl rfl ?ha ?_) | (refine' xBm (by decide) rfl ?ha ?_) | (refine' hd_callR rfl rfl rfl (xBi Try.func69 (by kernel_rfl) (by kernel_rfl) _) (fun w hw => cP w hw) ?ha ?_) | (refine' xBj rfl rfl rfl (xBi Try.func63 (by kernel_rfl) (by kernel_rfl) _) (fun w => cM2 w) ?ha ?_) | (refine' xBj rfl rfl rfl (xBi Try.func13 (by kernel_rfl) (by kernel_rfl) _) (fun w => cO w) ?ha ?_)); try (case ha => simp only [kP, kQ, kA, kB]; try rfl))
          refine xBp (hK _ _ ?_)
          clear hK K
          refine xBw (fun Q hQ => ?_)
          try simp only [List.nil_append, List.cons_append]
          repeat ((first | refine' xBf rfl (.inl rfl) rfl ?hk ?ha ?_ | refine' xBf rfl (.inr rfl) rfl ?hk ?ha ?_ | (refine' xAy rfl rfl rfl inferInstance rfl ?hs rfl rfl ?hn ?hk ?ha ?_; (case hs => repeat (first | exact xAw.head | with_reducible assumption | apply xAw.tail)); (case hn => first | rfl | simp)) | (refine' xAt rfl rfl rfl inferInstance rfl rfl ?hs ?hn ?hl ?hk ?ha ?_; (case hs => repeat (first | exact xAw.head | with_reducible assumption | apply xAw.tail)); (case hn => first | exact oD rfl | (show _ < 4; with_reducible assumption) | (simp; try omega)); (case hl => first | with_reducible assumption | (simp only [nl, kA, kB]; first | done | rfl) | rfl)) | (refine' xAx rfl rfl rfl inferInstance rfl rfl ?hvn ?hs ?hn ?hl ?hk ?ha ?_; (case hvn => first | rfl | simp); (case hs => repeat (first | exact xAw.head | with_reducible assumption | apply xAw.tail)); (case hn => first | exact oD rfl | (show _ < 4; with_reducible assumption) | (simp; try omega)); (case hl => first | with_reducible assumption | (simp only [nl, kA, kB]; first | done | rfl) | rfl)) | (refine' xBq rfl (fun w => ?hq) ?hk ?ha ?_; (case hq => go_simp; try rfl))); (case hk => intro p hp; first | exact absurd hp List.not_mem_nil | (obtain rfl := List.mem_singleton.1 hp; repeat (first | exact List.Mem.head _ | with_reducible assumption | apply mC))); (case ha => simp only [kP, kQ, kA, kB]; try rfl))
          refine xBx (fun w hR => hQ _ _ ?_)
          clear hQ Q
          go_wp2_with (first | (refine' xAb hR rfl rfl rfl ?_; clear hR; intro blk w hR) | (refine' xAa hR rfl rfl inferInstance ?_; clear hR; intro blk w hR) | (refine' aFq hR rfl rfl rfl inferInstance ?_) | (refine' aGq hR rfl rfl rfl inferInstance ?_) | (refine' aHq hR rfl rfl rfl inferInstance ?_) | (refine' aIq hR rfl rfl rfl inferInstance rfl ?_; clear hR; intro w hR) | (refine' aJq hR rfl rfl rfl inferInstance rfl rfl ?_; clear hR; intro w hR) | (refine' wpList_build1P rfl rfl rfl build_stop ?_))
          exact ⟨rfl, .inr ⟨hno.out, rfl⟩, hR.drop1.drop1⟩
set_option maxRecDepth 100000 in
set_option maxHeartbeats 4000000 in
theorem check_bad (m : Int) (hbad : n < 1 ∨ 7 < n ∨ m < 1 ∨ (n : Int) < m) : Calls Try.prog 45 #[grp p q g h, .slice a n cp, .int .i64 m] W fun e w' => e = .returned (.tuple #[.bool false, .int .i64 1]) ∧ Below W.heap.size W w' := by
  have hR := Rep.init W
  have hb : ∀ (c : Prop), c ∨ ¬ c := fun c => Classical.em c
  by_cases c1 : n < 1
  · have d1 : decide ((n : Int) < 1) = true := decide_eq_true (by omega)
    clear hbad c1 hb
    go_enter Try.func45, Try.ntmps45
    go_wp2_with (first | go_skip | (refine' xAb (l := [.int .i64 m]) hR rfl rfl rfl ?_; clear hR; intro blk w hR) | (refine' xAb (l := [.slice a n cp]) hR rfl rfl rfl ?_; clear hR; intro blk w hR) | (refine' xAb hR rfl rfl rfl ?_; clear hR; intro blk w hR) | (refine' xAa hR rfl rfl inferInstance ?_; clear hR; intro blk w hR) | (refine' aFq hR rfl rfl rfl inferInstance ?_) | (refine' aGq hR rfl rfl rfl inferInstance ?_) | (refine' aHq hR rfl rfl rfl inferInstance ?_) | (refine' aIq hR rfl rfl rfl inferInstance rfl ?_; clear hR; intro w hR) | (refine' aJq hR rfl rfl rfl inferInstance rfl rfl ?_; clear hR; intro w hR) | (refine' xAq hR rfl rfl rfl inferInstance ?hm ?hn ?_; (case hm => first | with_reducible assumption | repeat (first | exact .head _ | with_reducible assumption | apply mC)); (case hn => first | rfl | simp)) | (refine' xAh hR rfl rfl rfl inferInstance ?hm ?hv ?_; (case hm => first | with_reducible assumption | repeat (first | exact .head _ | with_reducible assumption | apply mC)); (case hv => first | rfl | with_reducible assumption)) | (refine' xAs hR rfl rfl rfl inferInstance ?hm ?hv ?hn ?_; (case hm => first | with_reducible assumption | repeat (first | exact .head _ | with_reducible assumption | apply mC)); (case hv => first | with_reducible assumption | (simp only [kC, kD, kE, kF]; try rfl)); (case hn => first | rfl | simp)))
    go_ret2
    exact ⟨rfl, hR.below⟩
  have d1 : decide ((n : Int) < 1) = false := decide_eq_false (by omega)
  have d1' : ¬ (n : Int) < 1 := by omega
  by_cases c2 : 7 < n
  · have d2 : decide (7 < (n : Int)) = true := decide_eq_true (by omega)
    clear hbad c1 c2 hb
    go_enter Try.func45, Try.ntmps45
    go_wp2_with (first | go_skip | (refine' xAb (l := [.int .i64 m]) hR rfl rfl rfl ?_; clear hR; intro blk w hR) | (refine' xAb (l := [.slice a n cp]) hR rfl rfl rfl ?_; clear hR; intro blk w hR) | (refine' xAb hR rfl rfl rfl ?_; clear hR; intro blk w hR) | (refine' xAa hR rfl rfl inferInstance ?_; clear hR; intro blk w hR) | (refine' aFq hR rfl rfl rfl inferInstance ?_) | (refine' aGq hR rfl rfl rfl inferInstance ?_) | (refine' aHq hR rfl rfl rfl inferInstance ?_) | (refine' aIq hR rfl rfl rfl inferInstance rfl ?_; clear hR; intro w hR) | (refine' aJq hR rfl rfl rfl inferInstance rfl rfl ?_; clear hR; intro w hR) | (refine' xAq hR rfl rfl rfl inferInstance ?hm ?hn ?_; (case hm => first | with_reducible assumption | repeat (first | exact .head _ | with_reducible assumption | apply mC)); (case hn => first | rfl | simp)) | (refine' xAh hR rfl rfl rfl inferInstance ?hm ?hv ?_; (case hm => first | with_reducible assumption | repeat (first | exact .head _ | with_reducible assumption | apply mC)); (case hv => first | rfl | with_reducible assumption)) | (refine' xAs hR rfl rfl rfl inferInstance ?hm ?hv ?hn ?_; (case hm => first | with_reducible assumption | repeat (first | exact .head _ | with_reducible assumption | apply mC)); (case hv => first | with_reducible assumption | (simp only [kC, kD, kE, kF]; try rfl)); (case hn => first | rfl | simp)))
    go_ret2
    exact ⟨rfl, hR.below⟩
  have d2 : decide (7 < (n : Int)) = false := decide_eq_false (by omega)
  have d2' : ¬ 7 < (n : Int) := by omega
  by_cases c3 : m < 1
  · have d3 : decide (m < 1) = true := decide_eq_true c3
    clear hbad c1 c2 hb
    go_enter Try.func45, Try.ntmps45
    go_wp2_with (first | go_skip | (refine' xAb (l := [.int .i64 m]) hR rfl rfl rfl ?_; clear hR; intro blk w hR) | (refine' xAb (l := [.slice a n cp]) hR rfl rfl rfl ?_; clear hR; intro blk w hR) | (refine' xAb hR rfl rfl rfl ?_; clear hR; intro blk w hR) | (refine' xAa hR rfl rfl inferInstance ?_; clear hR; intro blk w hR) | (refine' aFq hR rfl rfl rfl inferInstance ?_) | (refine' aGq hR rfl rfl rfl inferInstance ?_) | (refine' aHq hR rfl rfl rfl inferInstance ?_) | (refine' aIq hR rfl rfl rfl inferInstance rfl ?_; clear hR; intro w hR) | (refine' aJq hR rfl rfl rfl inferInstance rfl rfl ?_; clear hR; intro w hR) | (refine' xAq hR rfl rfl rfl inferInstance ?hm ?hn ?_; (case hm => first | with_reducible assumption | repeat (first | exact .head _ | with_reducible assumption | apply mC)); (case hn => first | rfl | simp)) | (refine' xAh hR rfl rfl rfl inferInstance ?hm ?hv ?_; (case hm => first | with_reducible assumption | repeat (first | exact .head _ | with_reducible assumption | apply mC)); (case hv => first | rfl | with_reducible assumption)) | (refine' xAs hR rfl rfl rfl inferInstance ?hm ?hv ?hn ?_; (case hm => first | with_reducible assumption | repeat (first | exact .head _ | with_reducible assumption | apply mC)); (case hv => first | with_reducible assumption | (simp only [kC, kD, kE, kF]; try rfl)); (case hn => first | rfl | simp)))
    go_ret2
    exact ⟨rfl, hR.below⟩
  have d3 : decide (m < 1) = false := decide_eq_false c3
  have c4 : (n : Int) < m := by omega
  have d4 : decide ((n : Int) < m) = true := decide_eq_true c4
  clear hbad c1 c2 hb
  go_enter Try.func45, Try.ntmps45
  go_wp2_with (first | go_skip | (refine' xAb (l := [.int .i64 m]) hR rfl rfl rfl ?_; clear hR; intro blk w hR) | (refine' xAb (l := [.slice a n cp]) hR rfl rfl rfl ?_; clear hR; intro blk w hR) | (refine' xAb hR rfl rfl rfl ?_; clear hR; intro blk w hR) | (refine' xAa hR rfl rfl inferInstance ?_; clear hR; intro blk w hR) | (refine' aFq hR rfl rfl rfl inferInstance ?_) | (refine' aGq hR rfl rfl rfl inferInstance ?_) | (refine' aHq hR rfl rfl rfl inferInstance ?_) | (refine' aIq hR rfl rfl rfl inferInstance rfl ?_; clear hR; intro w hR) | (refine' aJq hR rfl rfl rfl inferInstance rfl rfl ?_; clear hR; intro w hR) | (refine' xAq hR rfl rfl rfl inferInstance ?hm ?hn ?_; (case hm => first | with_reducible assumption | repeat (first | exact .head _ | with_reducible assumption | apply mC)); (case hn => first | rfl | simp)) | (refine' xAh hR rfl rfl rfl inferInstance ?hm ?hv ?_; (case hm => first | with_reducible assumption | repeat (first | exact .head _ | with_reducible assumption | apply mC)); (case hv => first | rfl | with_reducible assumption)) | (refine' xAs hR rfl rfl rfl inferInstance ?hm ?hv ?hn ?_; (case hm => first | with_reducible assumption | repeat (first | exact .head _ | with_reducible assumption | apply mC)); (case hv => first | with_reducible assumption | (simp only [kC, kD, kE, kF]; try rfl)); (case hn => first | rfl | simp)))
  go_ret2
  exact ⟨rfl, hR.below⟩
set_option maxRecDepth 100000 in
set_option maxHeartbeats 4000000 in
theorem check_go (hp : p < B) (hq : q < B) (h1 : 1 < p) (hq1 : 1 < q) (hA : NAt W.heap.size W [] a n cp V) (hm : ∀ j, j < n → mayG p (V j)) (hd : difOK q n) (hn1 : 1 ≤ n) (hn7 : n ≤ 7) (hk1 : 1 ≤ k) (hkn : k ≤ n) (s : Bool) (hs : s = true ↔ ckAll p q n V k) :
    Calls Try.prog 45 #[grp p q g h, .slice a n cp, .int .i64 (k : Int)] W fun e w' => e = .returned (.tuple #[.bool s, .int .i64 0]) ∧ Below W.heap.size W w' := by
  have hR := Rep.init W
  have hmf : ∀ (fn : Fn) (first cap : Array Value) (w : World), (Instr.makeFunc fn first cap).run Try.prog w = .ok (.func fn first cap) w := fun _ _ _ _ => rfl
  have d1 : decide ((n : Int) < 1) = false := decide_eq_false (by omega)
  have d1' : ¬ (n : Int) < 1 := by omega
  have d2 : decide (7 < (n : Int)) = false := decide_eq_false (by omega)
  have d2' : ¬ 7 < (n : Int) := by omega
  have d3 : decide ((k : Int) < 1) = false := decide_eq_false (by omega)
  have d3' : ¬ (k : Int) < 1 := by omega
  have d4 : decide ((n : Int) < (k : Int)) = false := decide_eq_false (by omega)
  have d4' : ¬ (n : Int) < (k : Int) := by omega
  have cc := fun (b5 b4 b3 : Nat) (M : List (Nat × Obj)) (w : World) (hM : ∀ x ∈ M, x.2.isCells = true) (hw : Rep W.heap.size W (M ++ cL p q g h n cp a k b5 b4 b3) w) => check1_any (g := g) (h := h) hp hq h1 hq1 hA hm hd hn1 hn7 hk1 hkn M hM hw
  clear hA hm hd
  by_cases hall : ckAll p q n V k
  · obtain rfl := hs.2 hall
    have c2 : ∀ (b5 b4 b3 : Nat) (M : List (Nat × Obj)) (w : World), (∀ x ∈ M, x.2.isCells = true) → Rep W.heap.size W (M ++ cL p q g h n cp a k b5 b4 b3) w → Calls Try.prog 68 #[.pointer (some ⟨b4, 0, none⟩), .pointer (some ⟨b3, 0, none⟩), .pointer (some ⟨b5, 0, none⟩)] w fun e w' => e = .returned (.tuple #[]) ∧ Rep W.heap.size W (M ++ cL p q g h n cp a k b5 b4 b3) w' := fun b5 b4 b3 M w hM hw => (cc b5 b4 b3 M w hM hw).mono fun e w' ⟨hx, hy⟩ => ⟨hx.elim (fun hh => hh.2) fun hh => absurd hall hh.1, hy⟩
    clear hs hall cc
    go_enter Try.func45, Try.ntmps45
    go_wp2_with (first | go_skip | (refine' xAb (l := [.int .i64 (k : Int)]) hR rfl rfl rfl ?_; clear hR; intro blk w hR) | (refine' xAb (l := [.slice a n cp]) hR rfl rfl rfl ?_; clear hR; intro blk w hR) | (refine' xAb hR rfl rfl rfl ?_; clear hR; intro blk w hR) | (refine' xAa hR rfl rfl inferInstance ?_; clear hR; intro blk w hR) | (refine' aFq hR rfl rfl rfl inferInstance ?_) | (refine' aGq hR rfl rfl rfl inferInstance ?_) | (refine' aHq hR rfl rfl rfl inferInstance ?_) | (refine' aIq hR rfl rfl rfl inferInstance rfl ?_; clear hR; intro w hR) | (refine' aJq hR rfl rfl rfl inferInstance rfl rfl ?_; clear hR; intro w hR) | (refine' xAq hR rfl rfl rfl inferInstance ?hm ?hn ?_; (case hm => first | with_reducible assumption | repeat (first | exact .head _ | with_reducible assumption | apply mC)); (case hn => first | rfl | simp)) | (refine' xAh hR rfl rfl rfl inferInstance ?hm ?hv ?_; (case hm => first | with_reducible assumption | repeat (first | exact .head _ | with_reducible assumption | apply mC)); (case hv => first | rfl | with_reducible assumption)) | (refine' xAs hR rfl rfl rfl inferInstance ?hm ?hv ?hn ?_; (case hm => first | with_reducible assumption | repeat (first | exact .head _ | with_reducible assumption | apply mC)); (case hv => first | with_reducible assumption | (simp only [kC, kD, kE, kF]; try rfl)); (case hn => first | rfl | simp)) | (go_at_call 61; refine (stopped_chk [_, _, _] (fun M w hM hw => c2 _ _ _ M w hM hw) hR).mono ?_; clear hR; rintro e w ⟨rfl, hR⟩))
    go_ret2
    exact ⟨rfl, hR.below⟩
  · obtain rfl : s = false := by
      cases s
      · rfl
      · exact absurd (hs.1 rfl) hall
    have c2 : ∀ (b5 b4 b3 : Nat) (M : List (Nat × Obj)) (w : World), (∀ x ∈ M, x.2.isCells = true) → Rep W.heap.size W (M ++ cL p q g h n cp a k b5 b4 b3) w → Calls Try.prog 68 #[.pointer (some ⟨b4, 0, none⟩), .pointer (some ⟨b3, 0, none⟩), .pointer (some ⟨b5, 0, none⟩)] w fun e w' => e = .panicked [{ v := .iface 99 (.agg #[.int .i64 0]), recovered := false }] ∧ Rep W.heap.size W (M ++ cL p q g h n cp a k b5 b4 b3) w' := fun b5 b4 b3 M w hM hw => (cc b5 b4 b3 M w hM hw).mono fun e w' ⟨hx, hy⟩ => ⟨hx.elim (fun hh => absurd hh.1 hall) fun hh => hh.2, hy⟩
    clear hs hall cc
    go_enter Try.func45, Try.ntmps45
    go_wp2_with (first | go_skip | (refine' xAb (l := [.int .i64 (k : Int)]) hR rfl rfl rfl ?_; clear hR; intro blk w hR) | (refine' xAb (l := [.slice a n cp]) hR rfl rfl rfl ?_; clear hR; intro blk w hR) | (refine' xAb hR rfl rfl rfl ?_; clear hR; intro blk w hR) | (refine' xAa hR rfl rfl inferInstance ?_; clear hR; intro blk w hR) | (refine' aFq hR rfl rfl rfl inferInstance ?_) | (refine' aGq hR rfl rfl rfl inferInstance ?_) | (refine' aHq hR rfl rfl rfl inferInstance ?_) | (refine' aIq hR rfl rfl rfl inferInstance rfl ?_; clear hR; intro w hR) | (refine' aJq hR rfl rfl rfl inferInstance rfl rfl ?_; clear hR; intro w hR) | (refine' xAq hR rfl rfl rfl inferInstance ?hm ?hn ?_; (case hm => first | with_reducible assumption | repeat (first | exact .head _ | with_reducible assumption | apply mC)); (case hn => first | rfl | simp)) | (refine' xAh hR rfl rfl rfl inferInstance ?hm ?hv ?_; (case hm => first | with_reducible assumption | repeat (first | exact .head _ | with_reducible assumption | apply mC)); (case hv => first | rfl | with_reducible assumption)) | (refine' xAs hR rfl rfl rfl inferInstance ?hm ?hv ?hn ?_; (case hm => first | with_reducible assumption | repeat (first | exact .head _ | with_reducible assumption | apply mC)); (case hv => first | with_reducible assumption | (simp only [kC, kD, kE, kF]; try rfl)); (case hn => first | rfl | simp)) | (go_at_call 61; refine (stopped_chkN [_, _, _] 0 (fun M w hM hw => c2 _ _ _ M w hM hw) hR).mono ?_; clear hR; rintro e w ⟨rfl, hR⟩))
    go_ret2
    exact ⟨rfl, hR.below⟩
end
end Go.Proofs.Ytgfoeongjhkdmaa
namespace Go.Proofs.Ytgfoeongjhkdmaa
open Go.RowKit
theorem in_of_pow {p q x : Nat} (h1 : 1 < p) (hx : x < p) (hq : q ≠ 0) (hp : powN x q p = 1) : inG p q x := by
  refine ⟨⟨h1, fun h0 => ?_, hx⟩, hp⟩
  rw [h0, xCc, Nat.zero_pow (by omega), Nat.zero_mod] at hp
  exact absurd hp (by decide)
theorem pow_mod' (a n p : Nat) : (a % p) ^ n % p = a ^ n % p := (Nat.pow_mod a n p).symm
theorem in_exp {p q a : Nat} (hq : q ≠ 0) (ha : inG p q a) (n : Nat) : inG p q (powN a n p) := by
  obtain ⟨⟨h1, _, _⟩, ea⟩ := ha
  refine in_of_pow h1 (pow_lt' h1 a n) hq ?_
  rw [xCc] at ea
  rw [xCc, xCc, pow_mod', ← Nat.pow_mul, Nat.mul_comm, Nat.pow_mul, Nat.pow_mod, ea, Nat.one_pow, Nat.mod_eq_of_lt h1]
theorem pow_red {p q a : Nat} (ha : inG p q a) (n : Nat) : powN a n p = powN a (n % q) p := by
  obtain ⟨⟨h1, _, _⟩, ea⟩ := ha
  rw [xCc] at ea
  rw [xCc, xCc]
  conv => lhs; rw [← Nat.div_add_mod n q]
  rw [Nat.pow_add, Nat.pow_mul, Nat.mul_mod, Nat.pow_mod, ea, Nat.one_pow, Nat.mod_eq_of_lt h1, Nat.one_mul, Nat.mod_mod]
theorem pow_pow (a n k p : Nat) : powN (powN a n p) k p = powN a (n * k) p := by
  rw [xCc, xCc, xCc, pow_mod', ← Nat.pow_mul]
theorem pow_sum (a n k p : Nat) : mulN (powN a n p) (powN a k p) p = powN a (n + k) p := by
  rw [mulN_def, xCc, xCc, xCc, ← Nat.mul_mod, ← Nat.pow_add]
theorem pow_first {p a : Nat} (ha : a < p) : powN a 1 p = a := by rw [xCc, Nat.pow_one, Nat.mod_eq_of_lt ha]
theorem pow_back {p q a n y : Nat} (ha : inG p q a) (h : n * y % q = 1) : powN (powN a n p) y p = a := by
  rw [pow_pow, pow_red ha, h]
  exact pow_first ha.1.2.2
end Go.Proofs.Ytgfoeongjhkdmaa
namespace Go.Proofs.Ytgfoeongjhkdmaa
open Go.RowKit
theorem small_dvd {q d : Nat} (hq : xCk q) (hd : d ∣ q) : d = 1 ∨ d = q := by
  obtain ⟨h2, _, hn⟩ := hq
  obtain ⟨e, he⟩ := hd
  have hd0 : d ≠ 0 := fun h => by rw [h, Nat.zero_mul] at he; omega
  have he0 : e ≠ 0 := fun h => by rw [h, Nat.mul_zero] at he; omega
  by_cases h1 : d = 1
  · exact .inl h1
  · by_cases h3 : e = 1
    · exact .inr (by rw [he, h3, Nat.mul_one])
    · exfalso
      rcases Nat.le_total d e with h | h
      · exact hn d (by omega) (by rw [he]; exact Nat.mul_le_mul_left d h) (by rw [he, Nat.mul_mod_right])
      · exact hn e (by omega) (by rw [he]; exact Nat.mul_le_mul_right e h) (by rw [he, Nat.mul_mod_left])
theorem small_gcd {q a : Nat} (hq : xCk q) (h0 : a ≠ 0) (ha : a < q) : Nat.gcd a q = 1 := by
  rcases small_dvd hq (Nat.gcd_dvd_right a q) with h | h
  · exact h
  · have := Nat.le_of_dvd (by omega) (Nat.gcd_dvd_left a q)
    omega
theorem pow_nought {p q a n : Nat} (ha : inG p q a) (hq : xCk q) (h1 : a ≠ 1) (hn : n < q) (h : powN a n p = 1) : n = 0 := by
  have h2 := hq.1
  rcases Nat.eq_zero_or_pos n with h0 | h0
  · exact h0
  · exfalso
    obtain ⟨l, e⟩ := invM_spec (by omega : 1 < q) hn (small_gcd hq (by omega) hn)
    have := pow_back ha (n := n) (y := invM n q) (by rw [Nat.mul_comm]; exact e)
    rw [h, xCc, Nat.one_pow, Nat.mod_eq_of_lt ha.1.1] at this
    exact h1 this.symm
end Go.Proofs.Ytgfoeongjhkdmaa
namespace Go.Proofs.Ytgfoeongjhkdmaa
open Go.RowKit
theorem prodL_nilD (p : Nat) : prodL p [] = 1 := rfl
def sumN (f : Nat → Nat) : Nat → Nat
  | 0 => 0
  | k + 1 => sumN f k + f k
theorem prod_pow {p g : Nat} (h1 : 1 < p) (hp : p < B) {l W : Nat → Nat} : ∀ n, (∀ t, t < n → W t < B) → prodL p (up (zsC (fun j => powN g (l j) p) W) n) = powN g (sumN (fun t => l t * W t) n) p
  | 0, _ => by
    rw [up_zero, prodL_nilD, sumN, xCc, Nat.pow_zero, Nat.mod_eq_of_lt h1]
  | n + 1, h => by
    rw [up_succ, prodL_snoc, prod_pow h1 hp n (fun t ht => h t (by omega)), stepP_def, zsC_1 (V := fun j => powN g (l j) p) (W := W) (j := n) (Nat.lt_trans (pow_lt' h1 _ _) hp) (h n (by omega)), pow_pow, pow_sum, sumN]
section
variable {p q g h n k : Nat} {l : Nat → Nat}
theorem fi_sumN [NeZero q] (f : Nat → Nat) : ∀ k, fi q (sumN f k) = SR (fun t => fi q (f t)) k
  | 0 => by rw [sumN, fi_zero, SR]
  | k + 1 => by rw [sumN, fi_add, fi_sumN f k, SR]
theorem pow_one_iff [NeZero q] (hg : inG p q g) (hq : xCk q) (hg1 : g ≠ 1) (n : Nat) : powN g n p = 1 ↔ fi q n = 0 := by
  have hq0 : 0 < q := by have := hq.1; omega
  have e : fi q n = 0 ↔ n % q = 0 := by
    constructor
    · intro h
      have := congrArg Fin.val h
      rw [← fi_zero, fi_val, fi_val, Nat.zero_mod] at this
      exact this
    · intro h
      refine Fin.ext ?_
      rw [fi_val, h, ← fi_zero, fi_val, Nat.zero_mod]
  rw [e, pow_red hg]
  constructor
  · intro h
    exact pow_nought hg hq hg1 (Nat.mod_lt _ hq0) h
  · intro h
    rw [h, xCc, Nat.pow_zero, Nat.mod_eq_of_lt hg.1.1]
theorem ck_iff [NeZero q] (hp : p < B) (hq : q < B) (hg : inG p q g) (hs : xCk q) (hg1 : g ≠ 1) (hd : difOK q n) (kk : Nat) : ckT p q n (fun j => powN g (l j) p) kk = 1 ↔ tkk q n (ptF q) (fun t => fi q (l t)) kk = 0 := by
  have h1 : 1 < q := hs.1
  unfold ckT
  rw [prod_pow hg.1.1 hp n (fun t _ => Nat.lt_trans (wordF_lt h1 t) hq), pow_one_iff hg hs hg1, fi_sumN]
  unfold tkk
  rw [SR_congr n fun t ht => ?_]
  show fi q (l t * wordF q n (kk + 1) (mono q kk) t) = fi q (vF q n (ptF q) t) * (fi q (l t) * fi q (ptF q t) ^ kk)
  rw [fi_mul, wordF, fi_word h1 hd ht, c0F, fi_mono h1]
  grind
theorem ckAll_iff [NeZero q] (hp : p < B) (hq : q < B) (hg : inG p q g) (hs : xCk q) (hg1 : g ≠ 1) (hd : difOK q n) : ckAll p q n (fun j => powN g (l j) p) k ↔ ∀ kk, kk < n - k → tkk q n (ptF q) (fun t => fi q (l t)) kk = 0 :=
  ⟨fun h kk hk => (ck_iff hp hq hg hs hg1 hd kk).1 (h kk hk), fun h kk hk => (ck_iff hp hq hg hs hg1 hd kk).2 (h kk hk)⟩
theorem ptF_is (h1 : 1 < q) {j : Nat} (hj : j + 1 < q) : ptF q j = j + 1 := by
  have e := sOf_cast h1 ((j : Int) + 1)
  have : ((j : Int) + 1) % (q : Int) = (j : Int) + 1 := Int.emod_eq_of_lt (by omega) (by omega)
  rw [this] at e
  unfold ptF
  omega
theorem dif_small (hs : xCk q) (hn : n < q) : difOK q n := fun i k hi hk hik => by
  have h1 : 1 < q := hs.1
  haveI : NeZero q := ⟨by omega⟩
  refine small_gcd hs (fun h0 => hik ?_) (sOf_lt h1 _)
  have e := fi_dif h1 i k
  rw [h0, fi_zero] at e
  have e2 : fi q (ptF q i) = fi q (ptF q k) := by grind
  have e3 := fi_inj (ptF_lt h1 i) (ptF_lt h1 k) e2
  rw [ptF_is h1 (by omega), ptF_is h1 (by omega)] at e3
  omega
end
end Go.Proofs.Ytgfoeongjhkdmaa
namespace Go.Proofs.Ytgfoeongjhkdmaa
open Go.RowKit
attribute [local irreducible] Calls Instr.build Instr.buildSlice Instr.makeSlice
section
variable {B0 : Nat} {w0 w W : World} {L : List (Nat × Obj)} {p q g h n cp k : Nat} {a : Option Addr} {f : Nat → Nat}
theorem power_any {x : Nat} (hp : p < B) (hg : g < B) (hx : x < B) (ok : mayG p g) (w : World) : Calls Try.prog 44 #[grp p q g h, num x] w fun e w' => e = .returned (num (powN g x p)) ∧ Below w.heap.size w w' := by
  have tg := gl_g p q g h
  obtain ⟨r, hr⟩ : ∃ r, powN g x p = r := ⟨_, rfl⟩
  have cE := gexp_lit (p := p) (q := q) (g := g) (h := h) (r := r) (e := 0) hp hg hx (by rw [if_pos ok]; exact hr) (if_pos ok)
  rw [hr]
  clear hr ok
  have hR := Rep.init w
  go_enter Try.func44, Try.ntmps44
  go_wp2_with (first | (refine' xAb hR rfl rfl rfl ?_; clear hR; intro blk w hR) | (refine' xAa hR rfl rfl inferInstance ?_; clear hR; intro blk w hR) | (refine' aFq hR rfl rfl rfl inferInstance ?_) | (refine' aGq hR rfl rfl rfl inferInstance ?_) | (refine' aHq hR rfl rfl rfl inferInstance ?_) | (refine' aIq hR rfl rfl rfl inferInstance rfl ?_; clear hR; intro w hR) | (refine' aJq hR rfl rfl rfl inferInstance rfl rfl ?_; clear hR; intro w hR) | (go_at_call 67; refine (cE _).mono ?_; rintro e w ⟨rfl, hb⟩; replace hR := hR.call hb; clear hb))
  (refine' bodyPost_ret (xBr Try.results44 rfl (hR.loadAll (P := Try.prog) (ty := 24) ?hm ?hn)) rfl ⟨?_, hR.below⟩; (case hm => first | with_reducible assumption | repeat (first | exact .head _ | with_reducible assumption | apply mC)); (case hn => first | rfl | simp))
  rfl
theorem dcheck_yes {V : Nat → Nat} (hp : p < B) (hq : q < B) (h1 : 1 < p) (hq1 : 1 < q) (hA : NAt B0 w0 L a n cp V) (hm : ∀ j, j < n → mayG p (V j)) (hd : difOK q n) (hn1 : 1 ≤ n) (hn7 : n ≤ 7) (hk1 : 1 ≤ k) (hkn : k ≤ n) (s : Bool) (hs : s = true ↔ ckAll p q n V k) (hR : Rep B0 w0 L w) :
    Calls Try.prog 45 #[grp p q g h, .slice a n cp, .int .i64 (k : Int)] w fun e w' => e = .returned (.tuple #[.bool s, .int .i64 0]) ∧ Rep B0 w0 L w' :=
  (check_go (g := g) (h := h) hp hq h1 hq1 (hA.here hR) hm hd hn1 hn7 hk1 hkn s hs).mono fun e w' ⟨h1, h2⟩ => ⟨h1, hR.call h2⟩
theorem dcheck_no (m : Int) (hbad : n < 1 ∨ 7 < n ∨ m < 1 ∨ (n : Int) < m) (hR : Rep B0 w0 L w) : Calls Try.prog 45 #[grp p q g h, .slice a n cp, .int .i64 m] w fun e w' => e = .returned (.tuple #[.bool false, .int .i64 1]) ∧ Rep B0 w0 L w' :=
  (check_bad m hbad).mono fun e w' ⟨h1, h2⟩ => ⟨h1, hR.call h2⟩
set_option maxRecDepth 100000 in
set_option maxHeartbeats 8000000 in
theorem passes_gen (hp : p < B) (hg : g < B) (ok : mayG p g) (hA : NAt W.heap.size W [] a n cp f) (hn : n ≤ 1000) (m : Int) (s : Bool) (er : Int)
    (hC : ∀ (X : GrN) (L : List (Nat × Obj)) (w : World), GrNOk X n (fun j => powN g (f j) p) → (∀ x, x ∈ X.bl → x ∈ L) → Rep W.heap.size W L w → Calls Try.prog 45 #[grp p q g h, .slice X.a n X.cap, .int .i64 m] w fun e w' => e = .returned (.tuple #[.bool s, .int .i64 er]) ∧ Rep W.heap.size W L w') :
    Calls Try.prog 21 #[grp p q g h, .slice a n cp, .int .i64 m] W fun e w' => e = .returned (.tuple #[.bool s, .int .i64 er]) ∧ Below W.heap.size W w' := by
  have hR := Rep.init W
  replace hA := Held.mk hA
  replace hC := Held.mk hC
  go_enter Try.func21, Try.ntmps21
  go_wp2_with (first | (refine' xAb hR rfl rfl rfl ?_; clear hR; intro blk w hR) | (refine' xAa hR rfl rfl inferInstance ?_; clear hR; intro blk w hR) | (refine' aFq hR rfl rfl rfl inferInstance ?_) | (refine' aGq hR rfl rfl rfl inferInstance ?_) | (refine' aHq hR rfl rfl rfl inferInstance ?_) | (refine' aIq hR rfl rfl rfl inferInstance rfl ?_; clear hR; intro w hR) | (refine' aJq hR rfl rfl rfl inferInstance rfl rfl ?_; clear hR; intro w hR) | fail)
  obtain ⟨b3, hb_⟩ : ∃ y, y = blk := ⟨_, rfl⟩
  subst hb_
  try simp only [Act.put, kA, kB, List.setIfInBounds_toArray]
  refine' xBt (false :: false :: false :: false :: false :: false :: false :: false :: false :: false :: true :: true :: true :: true :: true :: true :: true :: true :: true :: true :: true :: true :: true :: true :: true :: false :: false :: false :: false :: false :: false :: []) (fun (v : Nat × GrN) l => (l.set 8 (.slice v.2.a v.1 v.2.cap)).set 9 (.int .i64 (v.1 : Int))) (fun v => (b3, .cells (gl p q g h).toArray 26) :: v.2.bl) (fun v => n - v.1) (fun v => v.1 ≤ n ∧ GrNOk v.2 v.1 (fun j => powN g (f j) p)) (0, ⟨none, 0, []⟩) ?h0 ?hO ?hR ?hs
  case h0 => exact xBh rfl rfl rfl
  case hO => exact ⟨Nat.zero_le _, grN_zero _⟩
  case hR => exact hR
  case hs =>
    clear hR
    intro v tm w hO ht hR K hK
    obtain ⟨i, X0⟩ := v
    obtain ⟨hi, hX⟩ := hO
    simp only at hi hX ht hR
    have g0 : 0 ≤ (i : Int) := by omega
    by_cases hik : i = n
    · subst hik
      have u1 : ¬ (i : Int) < (i : Int) := by omega
      have cK := fun (w : World) (hw : Rep W.heap.size W ((b3, .cells (gl p q g h).toArray 26) :: X0.bl) w) => hC.out X0 ((b3, .cells (gl p q g h).toArray 26) :: X0.bl) w hX (fun x hx => .tail _ hx) hw
      clear hK hX hA hC hi
      repeat (first | (obtain ⟨x, tm', e, ht'⟩ := xAu ht; clear ht; subst e; have ht := ht'; clear ht') | (obtain ⟨tm', e, ht'⟩ := xAj ht; clear ht; subst e; have ht := ht'; clear ht'))
      obtain rfl := xAz ht
      clear ht
      go_wp2_with (first | (refine' xAb hR rfl rfl rfl ?_; clear hR; intro blk w hR) | (refine' xAa hR rfl rfl inferInstance ?_; clear hR; intro blk w hR) | (refine' aFq hR rfl rfl rfl inferInstance ?_) | (refine' aGq hR rfl rfl rfl inferInstance ?_) | (refine' aHq hR rfl rfl rfl inferInstance ?_) | (refine' aIq hR rfl rfl rfl inferInstance rfl ?_; clear hR; intro w hR) | (refine' aJq hR rfl rfl rfl inferInstance rfl rfl ?_; clear hR; intro w hR) | (go_at_call 45; refine (cK _ hR).mono ?_; clear hR; rintro e w ⟨rfl, hR⟩))
      go_ret2
      exact ⟨rfl, hR.below⟩
    have u1 : (i : Int) < (n : Int) := by omega
    have hin : i < n := by omega
    have ei : IntKind.i64.wrap ((i : Int) + 1) = (i : Int) + 1 := by rw [IntKind.wrap_i64]; omega
    have ek : ((i + 1 : Nat) : Int) = (i : Int) + 1 := by omega
    have hi1 : i + 1 ≤ n := by omega
    have hmu : n - (i + 1) < n - i := by omega
    have hbig : i ≤ 1000000 := by omega
    obtain ⟨bv, ov, rfl, hyv⟩ := hA.out.at' (by omega)
    have ldf := fun (L : List (Nat × Obj)) (w : World) (hw : Rep W.heap.size W L w) => xCj (hyv w (hw.weaken (List.nil_sublist _)) i hin)
    have lf := hA.out.lt i hin
    obtain ⟨r, hr⟩ : ∃ r, powN g (f i) p = r := ⟨_, rfl⟩
    have cP := power_any (q := q) (h := h) hp hg lf ok
    rw [hr] at cP
    generalize f i = fv at cP ldf
    replace hr := Held.mk hr
    replace hi1 := Held.mk hi1
    replace hmu := Held.mk hmu
    replace ek := Held.mk ek
    clear hyv hi hik hin lf
    repeat (first | (obtain ⟨x, tm', e, ht'⟩ := xAu ht; clear ht; subst e; have ht := ht'; clear ht') | (obtain ⟨tm', e, ht'⟩ := xAj ht; clear ht; subst e; have ht := ht'; clear ht'))
    obtain rfl := xAz ht
    clear ht
    go_wp2_with (first | (refine' xAb hR rfl rfl rfl ?_; clear hR; intro blk w hR) | (refine' xAa hR rfl rfl inferInstance ?_; clear hR; intro blk w hR) | (refine' aFq hR rfl rfl rfl inferInstance ?_) | (refine' aGq hR rfl rfl rfl inferInstance ?_) | (refine' aHq hR rfl rfl rfl inferInstance ?_) | (refine' aIq hR rfl rfl rfl inferInstance rfl ?_; clear hR; intro w hR) | (refine' aJq hR rfl rfl rfl inferInstance rfl rfl ?_; clear hR; intro w hR) | fail)
    rename_i K5 k5
    try simp only [Act.put, kA, kB, List.setIfInBounds_toArray]
    refine xCa hR 10 xCf rfl ?_
    clear hR
    refine fHeads [(b3, Obj.cells (gl p q g h).toArray 26)] [1, 1, 1, 1, 1, 1, 1, 2, 2, 2] 3 rfl (by repeat (first | exact xBg | refine xAv (by repeat (first | exact .head _ | with_reducible assumption | apply mC)) ?_)) (by repeat (first | exact xBg | refine xAv (by repeat (first | exact .head _ | with_reducible assumption | apply mC)) ?_)) rfl (by decide +kernel) (fun K hK => ?_)
    repeat ((first | (refine' xCi rfl rfl rfl inferInstance ?hm ?hn ?ha ?_; (case hm => exact .head _); (case hn => rfl)) | (refine' hd_loadKP rfl rfl rfl ldf ?ha ?_) | (refine' hd_callK rfl rfl rfl (xBi Try.func44 (by kernel_rfl) (by kernel_rfl) _) (fun L' w hL hw => Calls.repQuiet hw (cP w) rfl) ?ha ?_) | (refine xBl ?_) | (refine' xAr (by decide) rfl (.inl rfl) rfl ?ha ?_) | (refine' xAr (by decide) rfl (.inr rfl) rfl ?ha ?_) | (refine' xAp rfl rfl rfl inferInstance ?hm ?hn ?ha ?_; (case hm => first | with_reducible assumption | repeat (first | exact .head _ | with_reducible assumption | apply mC)); (case hn => first | rfl | simp)) | (refine' xAk rfl rfl rfl inferInstance ?hm ?hv ?hn ?ha ?_; (case hm => first | with_reducible assumption | repeat (first | exact .head _ | with_reducible assumption | apply mC)); (case hv => first | with_reducible assumption | (simp only [kC, kD, kE, kF]; try rfl)); (case hn => first | rfl | simp)) | (refine' xAf rfl rfl rfl inferInstance ?hm ?hv ?ha ?_; (case hm => first | with_reducible assumption | repeat (first | exact .head _ | with_reducible assumption | apply mC)); (case hv => first | rfl | with_reducible assumption)) | (refine' xAl rfl rfl rfl inferInstance ?hm ?hv ?hn ?ha ?_; (case hm => first | with_reducible assumption | repeat (first | exact .head _ | with_reducible assumption | apply mC)); (case hv => first | with_reducible assumption | (simp only [kC, kD, kE, kF]; try rfl)); (case hn => first | rfl | simp)) | (refine' xAe rfl rfl rfl inferInstance ?hm ?hv ?ha ?_; (case hm => first | with_reducible assumption | repeat (first | exact .head _ | with_reducible assumption | apply mC)); (case hv => first | rfl | with_reducible assumption)) | ((first | refine' xAd (by decide) rfl rfl rfl rfl (fun w => ?hq) ?ha ?_ | refine' xBb (by decide) rfl rfl rfl rfl (fun w => ?hq) ?ha ?_ | refine' xAm (by decide) rfl rfl rfl (fun w => ?hq) ?ha ?_ | refine' xAc (by decide) rfl rfl rfl (fun w => ?hq) ?ha ?_ | refine' xAo (by decide) rfl rfl rfl (fun w => ?hq) ?ha ?_ | refine' xBd (by decide) rfl rfl rfl rfl (fun w => ?hq) ?ha ?_ | refine' xBa (by decide) rfl rfl rfl rfl rfl rfl (fun w => ?hq) ?ha ?_ | refine' xBe (by decide) rfl rfl (fun w => ?hq) ?ha ?_ | refine' xAn (by decide) rfl rfl rfl (fun w => ?hq) ?ha ?_ | refine' xBc (by decide) rfl rfl rfl (fun w => ?hq) ?ha ?_); (case hq => go_simp; try rfl)) | (refine' xAg (by decide) rfl rfl rfl ?ha ?_) | (refine' xBk (by decide) rfl rfl rfl rfl ?ha ?_) | (refine' xBm (by decide) rfl ?ha ?_)); try (case ha => simp only [kP, kQ, kA, kB]; try rfl))
    refine xBp (hK _ _ ?_)
    clear hK K
    try simp only [Act.put, kA, kB, List.setIfInBounds_toArray]
    refine f_at [7] (by decide +kernel) rfl ?_
    refine f_is 7 ?_
    refine f_new rfl rfl (xCu rfl rfl rfl) (by repeat (first | exact xBg | refine xAv (by repeat (first | exact .head _ | with_reducible assumption | apply mC | apply List.mem_append_left)) ?_)) (fun bt => ?_) xCm
    simp only [Act.put, kA, kB, List.setIfInBounds_toArray]
    refine f_at [8] (by decide +kernel) rfl ?_
    refine f_is 8 ?_
    refine f_appOne (R0 := [(b3, .cells (gl p q g h).toArray 26)]) rfl rfl rfl rfl rfl rfl (pC [_] X0.bl _) hX hr.out hbig (by repeat (first | exact xBg | refine xAv (by repeat (first | exact .head _ | with_reducible assumption | apply mC | apply List.mem_append_left)) ?_)) (fun X1 hX1 => ?_) xCm
    simp only [Act.put, kA, kB, List.setIfInBounds_toArray]
    refine f_at [9] (by decide +kernel) rfl ?_
    refine f_is 9 ?_
    refine f_y rfl rfl (xBn rfl (.inl rfl) rfl) (by repeat (first | exact xBg | refine xAv (by repeat (first | exact .head _ | with_reducible assumption | apply mC | apply List.mem_append_left)) ?_)) ?_ xCm
    simp only [Act.put, kA, kB, List.setIfInBounds_toArray]
    refine f_end (by decide +kernel) (fun w hR => ?_)
    simp only [Exit.then, Exit.inBlock]
    refine k5 _ _ ?_
    clear cP ldf
    go_wp2_with (first | (refine' xAb hR rfl rfl rfl ?_; clear hR; intro blk w hR) | (refine' xAa hR rfl rfl inferInstance ?_; clear hR; intro blk w hR) | (refine' aFq hR rfl rfl rfl inferInstance ?_) | (refine' aGq hR rfl rfl rfl inferInstance ?_) | (refine' aHq hR rfl rfl rfl inferInstance ?_) | (refine' aIq hR rfl rfl rfl inferInstance rfl ?_; clear hR; intro w hR) | (refine' aJq hR rfl rfl rfl inferInstance rfl rfl ?_; clear hR; intro w hR) | fail)
    exact hK.out (i + 1, X1) _ _ ⟨hi1.out, hX1⟩ hmu.out (by simp only [ek.out]; exact xBh rfl rfl rfl) hR
set_option maxRecDepth 100000 in
set_option maxHeartbeats 8000000 in
theorem values_go {m : Nat} (hp : p < B) (hq : q < B) (h1 : 1 < q) (hA : NAt W.heap.size W [] a n cp f) (hn : n ≤ 1000) (hf : ∀ j, j < n → f j < q) (hm : m ≤ 1000) :
    Calls Try.prog 20 #[grp p q g h, .slice a n cp, .int .i64 (m : Int)] W fun e w' => ∃ X : GrN, e = .returned (.slice X.a m X.cap) ∧ GrNOk X m (fun j => atN q f n (ptF q j)) ∧ Rep W.heap.size W X.bl w' := by
  have hR := Rep.init W
  replace hA := Held.mk hA
  replace hf := Held.mk hf
  go_enter Try.func20, Try.ntmps20
  go_wp2_with (first | (refine' xAb hR rfl rfl rfl ?_; clear hR; intro blk w hR) | (refine' xAa hR rfl rfl inferInstance ?_; clear hR; intro blk w hR) | (refine' aFq hR rfl rfl rfl inferInstance ?_) | (refine' aGq hR rfl rfl rfl inferInstance ?_) | (refine' aHq hR rfl rfl rfl inferInstance ?_) | (refine' aIq hR rfl rfl rfl inferInstance rfl ?_; clear hR; intro w hR) | (refine' aJq hR rfl rfl rfl inferInstance rfl rfl ?_; clear hR; intro w hR) | fail)
  obtain ⟨b3, hb_⟩ : ∃ y, y = blk := ⟨_, rfl⟩
  subst hb_
  try simp only [Act.put, kA, kB, List.setIfInBounds_toArray]
  refine' xBt (false :: false :: false :: false :: false :: false :: false :: false :: false :: true :: true :: true :: true :: true :: true :: true :: true :: true :: true :: true :: true :: true :: true :: true :: true :: true :: true :: true :: true :: false :: []) (fun (v : Nat × GrN) l => (l.set 7 (.slice v.2.a v.1 v.2.cap)).set 8 (.int .i64 ((v.1 : Int) + 1))) (fun v => (b3, .cells (gl p q g h).toArray 26) :: v.2.bl) (fun v => m - v.1) (fun v => v.1 ≤ m ∧ GrNOk v.2 v.1 (fun j => atN q f n (ptF q j))) (0, ⟨none, 0, []⟩) ?h0 ?hO ?hR ?hs
  case h0 => exact xBh rfl rfl rfl
  case hO => exact ⟨Nat.zero_le _, grN_zero _⟩
  case hR => exact hR
  case hs =>
    clear hR
    intro v tm w hO ht hR K hK
    obtain ⟨i, X0⟩ := v
    obtain ⟨hi, hX⟩ := hO
    simp only at hi hX ht hR
    have g0 : 0 ≤ (i : Int) := by omega
    by_cases hik : i = m
    · subst hik
      have u1 : ¬ (i : Int) + 1 ≤ (i : Int) := by omega
      replace hX := Held.mk hX
      clear hK hA hf hi
      repeat (first | (obtain ⟨x, tm', e, ht'⟩ := xAu ht; clear ht; subst e; have ht := ht'; clear ht') | (obtain ⟨tm', e, ht'⟩ := xAj ht; clear ht; subst e; have ht := ht'; clear ht'))
      obtain rfl := xAz ht
      clear ht
      go_wp2_with (first | (refine' xAb hR rfl rfl rfl ?_; clear hR; intro blk w hR) | (refine' xAa hR rfl rfl inferInstance ?_; clear hR; intro blk w hR) | (refine' aFq hR rfl rfl rfl inferInstance ?_) | (refine' aGq hR rfl rfl rfl inferInstance ?_) | (refine' aHq hR rfl rfl rfl inferInstance ?_) | (refine' aIq hR rfl rfl rfl inferInstance rfl ?_; clear hR; intro w hR) | (refine' aJq hR rfl rfl rfl inferInstance rfl rfl ?_; clear hR; intro w hR) | fail)
      go_ret
      exact ⟨X0, rfl, hX.out, hR.drop1⟩
    have u1 : (i : Int) + 1 ≤ (m : Int) := by omega
    have ei : IntKind.i64.wrap ((i : Int) + 1 + 1) = (i : Int) + 1 + 1 := by rw [IntKind.wrap_i64]; omega
    have ek : ((i + 1 : Nat) : Int) = (i : Int) + 1 := by omega
    have hi1 : i + 1 ≤ m := by omega
    have hmu : m - (i + 1) < m - i := by omega
    have hbig : i ≤ 1000000 := by omega
    obtain ⟨x0, hx0⟩ : ∃ x, ptF q i = x := ⟨_, rfl⟩
    have lx0 : x0 < q := by rw [← hx0]; exact ptF_lt h1 i
    obtain ⟨r, hr⟩ : ∃ x, atN q f n x0 = x := ⟨_, rfl⟩
    have hr2 : atN q f n (ptF q i) = r := by rw [hx0, hr]
    have cO := SO (p := p) (g := g) (h := h) (n := (i : Int) + 1) hq (by omega) (by omega) hx0
    have cA := fun (L : List (Nat × Obj)) (w : World) (hw : Rep W.heap.size W L w) => at_yes (g := g) (h := h) hp hq hn (hA.out.any (L := L)) ⟨⟨h1, hf.out⟩, lx0⟩ hw
    rw [hr] at cA
    replace hr2 := Held.mk hr2
    replace hi1 := Held.mk hi1
    replace hmu := Held.mk hmu
    replace ek := Held.mk ek
    clear hi hik hx0 hr
    repeat (first | (obtain ⟨x, tm', e, ht'⟩ := xAu ht; clear ht; subst e; have ht := ht'; clear ht') | (obtain ⟨tm', e, ht'⟩ := xAj ht; clear ht; subst e; have ht := ht'; clear ht'))
    obtain rfl := xAz ht
    clear ht
    go_wp2_with (first | (refine' xAb hR rfl rfl rfl ?_; clear hR; intro blk w hR) | (refine' xAa hR rfl rfl inferInstance ?_; clear hR; intro blk w hR) | (refine' aFq hR rfl rfl rfl inferInstance ?_) | (refine' aGq hR rfl rfl rfl inferInstance ?_) | (refine' aHq hR rfl rfl rfl inferInstance ?_) | (refine' aIq hR rfl rfl rfl inferInstance rfl ?_; clear hR; intro w hR) | (refine' aJq hR rfl rfl rfl inferInstance rfl rfl ?_; clear hR; intro w hR) | fail)
    rename_i K5 k5
    try simp only [Act.put, kA, kB, List.setIfInBounds_toArray]
    refine xCa hR 12 xCf rfl ?_
    clear hR
    refine fHeads [(b3, Obj.cells (gl p q g h).toArray 26)] [1, 1, 1, 1, 1, 1, 1, 1, 1, 2, 2, 2] 3 rfl (by repeat (first | exact xBg | refine xAv (by repeat (first | exact .head _ | with_reducible assumption | apply mC)) ?_)) (by repeat (first | exact xBg | refine xAv (by repeat (first | exact .head _ | with_reducible assumption | apply mC)) ?_)) rfl (by decide +kernel) (fun K hK => ?_)
    repeat ((first | (refine' xCi rfl rfl rfl inferInstance ?hm ?hn ?ha ?_; (case hm => exact .head _); (case hn => rfl)) | (refine' hd_callK rfl rfl rfl (xBi Try.func13 (by kernel_rfl) (by kernel_rfl) _) (fun L' w hL hw => Calls.repQuiet hw (cO w) rfl) ?ha ?_) | (refine' hd_callK rfl rfl rfl (xBi Try.func10 (by kernel_rfl) (by kernel_rfl) _) (fun L' w hL hw => cA L' w hw) ?ha ?_) | (refine xBl ?_) | (refine' xAr (by decide) rfl (.inl rfl) rfl ?ha ?_) | (refine' xAr (by decide) rfl (.inr rfl) rfl ?ha ?_) | (refine' xAp rfl rfl rfl inferInstance ?hm ?hn ?ha ?_; (case hm => first | with_reducible assumption | repeat (first | exact .head _ | with_reducible assumption | apply mC)); (case hn => first | rfl | simp)) | (refine' xAk rfl rfl rfl inferInstance ?hm ?hv ?hn ?ha ?_; (case hm => first | with_reducible assumption | repeat (first | exact .head _ | with_reducible assumption | apply mC)); (case hv => first | with_reducible assumption | (simp only [kC, kD, kE, kF]; try rfl)); (case hn => first | rfl | simp)) | (refine' xAf rfl rfl rfl inferInstance ?hm ?hv ?ha ?_; (case hm => first | with_reducible assumption | repeat (first | exact .head _ | with_reducible assumption | apply mC)); (case hv => first | rfl | with_reducible assumption)) | (refine' xAl rfl rfl rfl inferInstance ?hm ?hv ?hn ?ha ?_; (case hm => first | with_reducible assumption | repeat (first | exact .head _ | with_reducible assumption | apply mC)); (case hv => first | with_reducible assumption | (simp only [kC, kD, kE, kF]; try rfl)); (case hn => first | rfl | simp)) | (refine' xAe rfl rfl rfl inferInstance ?hm ?hv ?ha ?_; (case hm => first | with_reducible assumption | repeat (first | exact .head _ | with_reducible assumption | apply mC)); (case hv => first | rfl | with_reducible assumption)) | ((first | refine' xAd (by decide) rfl rfl rfl rfl (fun w => ?hq) ?ha ?_ | refine' xBb (by decide) rfl rfl rfl rfl (fun w => ?hq) ?ha ?_ | refine' xAm (by decide) rfl rfl rfl (fun w => ?hq) ?ha ?_ | refine' xAc (by decide) rfl rfl rfl (fun w => ?hq) ?ha ?_ | refine' xAo (by decide) rfl rfl rfl (fun w => ?hq) ?ha ?_ | refine' xBd (by decide) rfl rfl rfl rfl (fun w => ?hq) ?ha ?_ | refine' xBa (by decide) rfl rfl rfl rfl rfl rfl (fun w => ?hq) ?ha ?_ | refine' xBe (by decide) rfl rfl (fun w => ?hq) ?ha ?_ | refine' xAn (by decide) rfl rfl rfl (fun w => ?hq) ?ha ?_ | refine' xBc (by decide) rfl rfl rfl (fun w => ?hq) ?ha ?_); (case hq => go_simp; try rfl)) | (refine' xAg (by decide) rfl rfl rfl ?ha ?_) | (refine' xBk (by decide) rfl rfl rfl rfl ?ha ?_) | (refine' xBm (by decide) rfl ?ha ?_)); try (case ha => simp only [kP, kQ, kA, kB]; try rfl))
    refine xBp (hK _ _ ?_)
    clear hK K
    try simp only [Act.put, kA, kB, List.setIfInBounds_toArray]
    refine f_at [9] (by decide +kernel) rfl ?_
    refine f_is 9 ?_
    refine f_new rfl rfl (isNew_allocR rfl rfl) (by repeat (first | exact xBg | refine xAv (by repeat (first | exact .head _ | with_reducible assumption | apply mC | apply List.mem_append_left)) ?_)) (fun c' => ?_) xCm
    simp only [Act.put, kA, kB, List.setIfInBounds_toArray]
    refine f_at [10] (by decide +kernel) rfl ?_
    refine f_is 10 ?_
    refine' f_s rfl rfl (yields_storeAll (l := [.int .u64 0, .int .u64 0, .int .u64 0, .int .u64 0]) rfl rfl rfl inferInstance rfl rfl rfl rfl ?hs) ?hk ?_ xCm
    (case hs => repeat (first | exact xAw.head | with_reducible assumption | apply xAw.tail))
    (case hk => exact (by repeat (first | exact xBg | refine xAv (by repeat (first | exact .head _ | with_reducible assumption | apply mC | apply List.mem_append_left)) ?_)))
    refine f_at [11] (by decide +kernel) rfl ?_
    refine f_is 11 ?_
    refine f_y rfl rfl (xBn rfl (.inl rfl) rfl) (by repeat (first | exact xBg | refine xAv (by repeat (first | exact .head _ | with_reducible assumption | apply mC | apply List.mem_append_left)) ?_)) ?_ xCm
    simp only [Act.put, kA, kB, List.setIfInBounds_toArray]
    refine f_end (by decide +kernel) (fun w hR => ?_)
    simp only [Exit.then, Exit.inBlock]
    refine k5 _ _ ?_
    clear cO cA
    go_wp2_with (first | (refine' xAb hR rfl rfl rfl ?_; clear hR; intro blk w hR) | (refine' xAa hR rfl rfl inferInstance ?_; clear hR; intro blk w hR) | (refine' aFq hR rfl rfl rfl inferInstance ?_) | (refine' aGq hR rfl rfl rfl inferInstance ?_) | (refine' aHq hR rfl rfl rfl inferInstance ?_) | (refine' aIq hR rfl rfl rfl inferInstance rfl ?_; clear hR; intro w hR) | (refine' aJq hR rfl rfl rfl inferInstance rfl rfl ?_; clear hR; intro w hR) | (refine' wpList_new hR (xCu rfl rfl rfl) ?_; clear hR; intro bt w hR) | (refine' wpList_appendN (L' := fun l => (c', .cells (nl r).toArray 24) :: (b3, .cells (gl p q g h).toArray 26) :: l) hR (fun l => List.perm_append_comm (l₁ := [_, _])) rfl rfl rfl rfl hX hr2.out hbig ?_; clear hR hX; intro X1 w hX hR))
    exact hK.out (i + 1, X1) _ _ ⟨hi1.out, hX⟩ hmu.out (by simp only [ek.out]; exact xBh rfl rfl rfl) hR.drop1
end
end Go.Proofs.Ytgfoeongjhkdmaa
namespace Go.Proofs.Ytgfoeongjhkdmaa
open Go.RowKit
section
variable {q n m k : Nat} {f L : Nat → Nat}
theorem dif_wtE' (h1 : 1 < q) (hd : difOK q n) : wtE q n (ptF q) n = 0 := by
  haveI : NeZero q := ⟨by omega⟩
  exact xDa h1 hd
def passD (q n k : Nat) (L : Nat → Nat) : Prop := ∃ hq : NeZero q, ∀ kk, kk < n - k → @tkk q n hq (ptF q) (fun t => @fi q hq (L t)) kk = 0
theorem passD_iff [hq : NeZero q] : passD q n k L ↔ ∀ kk, kk < n - k → tkk q n (ptF q) (fun t => fi q (L t)) kk = 0 := ⟨fun ⟨_, h⟩ => h, fun h => ⟨hq, h⟩⟩
noncomputable def valF (q m : Nat) (f : Nat → Nat) (j : Nat) : Nat := atN q f m (ptF q j)
theorem val_pass (h1 : 1 < q) (hd : difOK q n) (hf : ∀ j, j < m → f j < q) (hm : 1 ≤ m) (hmk : m ≤ k) (hkn : k ≤ n) : passD q n k (valF q m f) := by
  haveI : NeZero q := ⟨by omega⟩
  rw [passD_iff]
  refine (pass_iff (D := fun j => if j < m then fi q (f j) else 0) h1 (fun j _ => ptF_lt h1 j) (xDa h1 hd) (fun j hj => ?_) (by omega) hkn).2 (fun j h2 h3 => ?_)
  · rw [valF, fi_atN h1 hf, H_pad (m := m) n _ (by omega) (fun t h2 _ => by rw [if_neg (by omega)])]
    exact H_congr (fun t ht => by rw [if_pos ht]) _
  · rw [if_neg (by omega)]
def othP (L : Nat → Nat) (at' v j : Nat) : Nat := if j = at' then v else L j
theorem oth_pass (h1 : 1 < q) (hd : difOK q n) (hf : ∀ j, j < m → f j < q) (hm : 1 ≤ m) (hmn : m ≤ n) {i b : Nat} (hi : i < n) (hb : 0 < b) (hbq : b < q) : passD q n m (othP (valF q m f) i ((valF q m f i + b) % q)) ↔ n = m := by
  haveI : NeZero q := ⟨by omega⟩
  have h0 := val_pass (n := n) (k := m) h1 hd hf hm (Nat.le_refl m) hmn
  rw [passD_iff] at h0 ⊢
  constructor
  · intro h
    refine Classical.byContradiction fun hnm => ?_
    have e1 := h 0 (by omega)
    have e0 := h0 0 (by omega)
    rw [tkk_zero] at e0 e1
    have hs : SR (fun t => fi q (vF q n (ptF q) t) * fi q (othP (valF q m f) i ((valF q m f i + b) % q) t)) n = SR (fun t => fi q (vF q n (ptF q) t) * fi q (valF q m f t)) n + SR (fun t => if t = i then fi q (vF q n (ptF q) t) * fi q b else 0) n := by
      rw [← SR_add]
      refine SR_congr n fun t ht => ?_
      unfold othP
      by_cases hti : t = i
      · rw [if_pos hti, if_pos hti, fi_addN, hti]
        grind
      · rw [if_neg hti, if_neg hti]
        grind
    rw [hs, e0, SR_one (j := i) n hi (fun t _ hti => if_neg hti), if_pos rfl] at e1
    obtain ⟨u, hu⟩ := vF_unit h1 hd hi
    have e2 : fi q b = 0 := by
      generalize fi q (vF q n (ptF q) i) = A at *
      grind
    have := fi_inj hbq (by omega) (e2.trans (fi_zero (q := q)).symm)
    omega
  · intro h kk hk
    omega
theorem all_pass (h1 : 1 < q) (hd : difOK q n) (hL : ∀ j, j < n → L j < q) (hk : 1 ≤ k) (hkn : k ≤ n) : passD q n k L ↔ ∀ j, j < n → valF q k (outF q k (ptF q) L k) j = L j := by
  haveI : NeZero q := ⟨by omega⟩
  have hdk : difOK q k := fun i j hi hj hij => hd i j (by omega) (by omega) hij
  have lP : ∀ j, j < k → outF q k (ptF q) L k j < q := fun j _ => outF_lt h1 k j
  rw [passD_iff]
  constructor
  · intro h j hj
    have hz := (pass_iff (D := fun j => fi q (outF q n (ptF q) L n j)) (L := fun t => fi q (L t)) h1 (fun j _ => ptF_lt h1 j) (xDa h1 hd) (fun j hj => out_at h1 (fun j _ => ptF_lt h1 j) (xDa h1 hd) hj) hk hkn).1 h
    refine fi_inj (q := q) (atN_lt h1 _ _ _) (hL j hj) ?_
    rw [valF, fi_atN h1 lP]
    have e : ∀ t, t < k → fi q (outF q k (ptF q) L k t) = fi q (outF q n (ptF q) L n t) := out_only h1 (fun j _ => ptF_lt h1 j) (xDa h1 hdk) (fun t => fi q (outF q n (ptF q) L n t)) (fun t ht => by
      rw [← out_at (V := L) h1 (fun j _ => ptF_lt h1 j) (xDa h1 hd) (show t < n by omega)]
      exact (H_pad (m := k) n _ hkn hz).symm)
    rw [H_congr e, ← out_at (V := L) h1 (fun j _ => ptF_lt h1 j) (xDa h1 hd) hj]
    exact (H_pad (m := k) n _ hkn hz).symm
  · intro h
    refine (pass_iff (D := fun j => if j < k then fi q (outF q k (ptF q) L k j) else 0) h1 (fun j _ => ptF_lt h1 j) (xDa h1 hd) (fun j hj => ?_) hk hkn).2 (fun j h2 h3 => ?_)
    · rw [← h j hj, valF, fi_atN h1 lP, H_pad (m := k) n _ hkn (fun t h2 _ => by rw [if_neg (by omega)])]
      exact H_congr (fun t ht => by rw [if_pos ht]) _
    · rw [if_neg (by omega)]
def lsN (P : Nat → Nat) : Nat → Nat
  | 0 => 1
  | i + 1 => if P i = 0 then lsN P i else i + 1
theorem lsN_iff {P : Nat → Nat} (hk : 1 ≤ k) : ∀ i, (∀ j, k ≤ j → j < i → P j = 0) ↔ lsN P i ≤ k
  | 0 => ⟨fun _ => hk, fun _ j _ h => absurd h (Nat.not_lt_zero j)⟩
  | i + 1 => by
    have ih := lsN_iff (P := P) hk i
    unfold lsN
    by_cases h0 : P i = 0
    · rw [if_pos h0, ← ih]
      exact ⟨fun h j h1 h2 => h j h1 (by omega), fun h j h1 h2 => by
        by_cases e : j = i
        · rw [e]; exact h0
        · exact h j h1 (by omega)⟩
    · rw [if_neg h0]
      constructor
      · intro h
        refine Classical.byContradiction fun hk2 => h0 (h i (by omega) (by omega))
      · intro h j h1 h2
        omega
theorem least_pass (h1 : 1 < q) (hd : difOK q n) (hk : 1 ≤ k) (hkn : k ≤ n) : passD q n k L ↔ lsN (outF q n (ptF q) L n) n ≤ k := by
  haveI : NeZero q := ⟨by omega⟩
  rw [passD_iff, pass_iff (D := fun j => fi q (outF q n (ptF q) L n j)) (L := fun t => fi q (L t)) h1 (fun j _ => ptF_lt h1 j) (xDa h1 hd) (fun j hj => out_at h1 (fun j _ => ptF_lt h1 j) (xDa h1 hd) hj) hk hkn, ← lsN_iff hk]
  exact ⟨fun h j h2 h3 => fi_inj (q := q) (outF_lt h1 n j) (by omega) ((h j h2 h3).trans (fi_zero (q := q)).symm), fun h j h2 h3 => by show fi q _ = 0; rw [h j h2 h3, fi_zero]⟩
end
end Go.Proofs.Ytgfoeongjhkdmaa
