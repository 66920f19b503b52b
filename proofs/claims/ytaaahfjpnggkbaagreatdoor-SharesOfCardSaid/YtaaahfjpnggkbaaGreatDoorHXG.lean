import Derived.Test.YtaaahfjpnggkbaaGreatDoorHXJ
import Derived.Test.YtaaahfjpnggkbaaGreatDoorHBB
set_option linter.unusedSimpArgs false
set_option linter.unusedVariables false
set_option maxRecDepth 100000
set_option maxHeartbeats 20000000
namespace Go.Proofs.YtaaahfjpnggkbaaGreatDoor
open Go.RowKit
section
instance zeroHeldJ : xKf Tryz.prog 128 [.slice none 0 0, .slice none 0 0, .int .i64 0] := ⟨.agg #[.slice none 0 0, .slice none 0 0, .int .i64 0], by kernel_rfl, rfl⟩
def xFc (e : Ent) (g : Option Nat) (cur : List Value) (f : Nat → Int) : Prop := (g = none ∧ e.a = none ∧ e.n = 0 ∧ e.cap = 0) ∨ ∃ b, g = some b ∧ e.a = some ⟨b, 0, none⟩ ∧ IOwn e.cap cur e.n f
def xFu (g : Option Nat) (cur : List Value) : List (Nat × Obj) := match g with
 | none => []
 | some b => [(b, .cells cur.toArray 3)]
theorem xFc.congr {e : Ent} {g : Option Nat} {cur : List Value} {f f' : Nat → Int} (h : xFc e g cur f) (hf : ∀ j, j < e.n → f j = f' j) : xFc e g cur f' := by
 rcases h with h | ⟨b, h1, h2, h3⟩
 ·exact .inl h
 ·exact .inr ⟨b, h1, h2, h3.le, h3.big, h3.len, by rw [h3.is, xFp hf]⟩
attribute [local irreducible] Calls Instr.build Instr.buildSlice
section
variable {B0 : Nat} {w0 w : World} {R : List (Nat × Obj)} {bb hb : Nat} {E : Nat → Ent} {g : Nat → Option Nat} {hcur bk : List Value} {m hc : Nat}
theorem fill_numJ {C : Nat → List Value} {f : Nat → Nat → Int} (hm : m ≤ 1000) (hbk : bk[2]? = some (.slice (some ⟨hb, 0, none⟩) m hc)) (hrw : ∀ j, j < m → (hcur.drop (j * 3)).take 3 = hrow (E j)) (hl : m * 3 ≤ hcur.length) (hk : ∀ j, j < m → (E j).k ≤ 1000000 ∧ (E j).n ≤ 1000000) (hE : ∀ j, j < m → xFc (E j) (g j) (C j) (f j))
  (hR : Rep B0 w0 ((bb, .cells bk.toArray 57) :: (hb, .cells hcur.toArray 128) :: (xBt (fun j => xFu (g j) (C j)) m ++ R)) w) :
  Calls Tryz.prog 50 #[.pointer (some ⟨bb, 0, none⟩)] w fun e w' => e = .returned (.tuple #[]) ∧ ∃ C' : Nat → List Value, (∀ j, j < m → xFc (E j) (g j) (C' j) (fun _ => -((E j).k : Int))) ∧ Rep B0 w0 ((bb, .cells bk.toArray 57) :: (hb, .cells hcur.toArray 128) :: (xBt (fun j => xFu (g j) (C' j)) m ++ R)) w' := by
 replace hrw := Held.mk hrw
 replace hk := Held.mk hk
 go_enter Tryz.func50, Tryz.ntmps50
 go_wp2_with (fail)
 try simp only [Act.put, kA, kB, List.setIfInBounds_toArray]
 refine' xAv (false :: false :: false :: true :: true :: true :: true :: true :: true :: true :: true :: true :: true :: true :: true :: true :: true :: true :: true :: true :: true :: true :: true :: true :: true :: true :: true :: true :: true :: true :: true :: true :: true :: true :: true :: []) (fun (v : Nat × (Nat → List Value)) l => l.set 2 (.int .i64 (v.1 : Int))) (fun v => (bb, .cells bk.toArray 57) :: (hb, .cells hcur.toArray 128) :: (xBt (fun j => xFu (g j) (v.2 j)) m ++ R)) (fun v => m - v.1) (fun v => v.1 ≤ m ∧ ∀ j, j < m → xFc (E j) (g j) (v.2 j) (if j < v.1 then fun _ => -((E j).k : Int) else f j)) (0, C) ?h0 ?hO ?hR ?hs
 case h0 => exact xAf rfl rfl rfl
 case hO => exact ⟨Nat.zero_le _, fun j hj => by rw [if_neg (Nat.not_lt_zero j)]; exact hE j hj⟩
 case hR => exact hR
 case hs =>
  clear hR hE
  intro v tm w hO ht hR K hK
  obtain ⟨i, D⟩ := v
  obtain ⟨hi, hD⟩ := hO
  simp only at hi hD ht hR
  have g0 : 0 ≤ (i : Int) := by omega
  by_cases him : i = m
  ·subst him
   have t1 : ¬ (i : Int) < (i : Int) := by omega
   have hfin : ∀ j, j < i → xFc (E j) (g j) (D j) (fun _ => -((E j).k : Int)) := fun j hj => by have := hD j hj; rwa [if_pos hj] at this
   replace hfin := Held.mk hfin
   clear hK hD hi
   repeat (first | (obtain ⟨x, tm', e, ht'⟩ := xAc ht; clear ht; subst e; have ht := ht'; clear ht') | (obtain ⟨tm', e, ht'⟩ := xAa ht; clear ht; subst e; have ht := ht'; clear ht'))
   obtain rfl := xAe ht
   clear ht
   go_wp2_with (refine' aMq hR ?_)
   go_end0
   exact ⟨rfl, D, hfin.out, hR⟩
  have hin : i < m := by omega
  have g1 : (i : Int) < (m : Int) := by omega
  have ei : IntKind.i64.wrap ((i : Int) + 1) = ((i + 1 : Nat) : Int) := by rw [IntKind.wrap_i64]; omega
  have hi1 : i + 1 ≤ m := by omega
  have hmu : m - (i + 1) < m - i := by omega
  replace hi1 := Held.mk hi1
  replace hmu := Held.mk hmu
  have row := hrw.out i hin
  obtain ⟨e, he⟩ : ∃ e, E i = e := ⟨_, rfl⟩
  rw [he] at row
  have hko := hk.out i hin
  have hDi := hD i hin
  rw [if_neg (Nat.lt_irrefl i), he] at hDi
  rw [he] at hko
  obtain ⟨hk1, hn1⟩ := hko
  have r0 := hrow_0 e
  have r2 := hrow_2 e
  have hgr : i * 3 + 3 ≤ hcur.length := by omega
  rcases hDi with ⟨hg, ha, hn, hcap⟩ | ⟨b, hg, ha, ho⟩
  ·rw [ha, hn, hcap] at r0
   have hnext : ∀ j, j < m → xFc (E j) (g j) (D j) (if j < i + 1 then fun _ => -((E j).k : Int) else f j) := fun j hj => by
    by_cases hji : j = i
    ·subst hji
     rw [he]
     exact .inl ⟨hg, ha, hn, hcap⟩
    ·have := hD j hj
     by_cases h2 : j < i
     ·rw [if_pos h2] at this; rw [if_pos (by omega)]; exact this
     ·rw [if_neg h2] at this; rw [if_neg (by omega)]; exact this
   replace hnext := Held.mk hnext
   clear hD hk hrw hi him hin he
   repeat (first | (obtain ⟨x, tm', e, ht'⟩ := xAc ht; clear ht; subst e; have ht := ht'; clear ht') | (obtain ⟨tm', e, ht'⟩ := xAa ht; clear ht; subst e; have ht := ht'; clear ht'))
   obtain rfl := xAe ht
   clear ht
   go_wp2_with (first | (refine' aBq hR ?_; clear hR; intro blk w hR) | (refine' aPq hR ?_) | (refine' aMq hR ?_) | (refine' aFq hR ?_; clear hR; intro w hR))
   refine wp_loop_rounds 1 ?_
   rw [rounds_succ]
   go_wp2_with (refine' aMq hR ?_)
   exact hK.out (i + 1, D) _ _ ⟨hi1.out, hnext.out⟩ hmu.out (xAf rfl rfl rfl) hR.drop1
  ·rw [ha] at r0
   have hpm : ∀ X : List Value, ((bb, Obj.cells bk.toArray 57) :: (hb, .cells hcur.toArray 128) :: (xBt (fun j => xFu (g j) (if j = i then X else D j)) m ++ R)).Perm ((b, .cells X.toArray 3) :: (bb, Obj.cells bk.toArray 57) :: (hb, .cells hcur.toArray 128) :: (xBt (fun j => if j = i then [] else xFu (g j) (D j)) m ++ R)) := fun X => by
    have h1 := xFg (F := fun j => xFu (g j) (if j = i then X else D j)) (i := i) m hin
    have h2 : xBt (fun j => if j = i then [] else (fun j => xFu (g j) (if j = i then X else D j)) j) m = xBt (fun j => if j = i then [] else xFu (g j) (D j)) m := xCb m fun j _ => by
     by_cases hji : j = i
     ·rw [if_pos hji, if_pos hji]
     ·rw [if_neg hji, if_neg hji]
      show xFu (g j) (if j = i then X else D j) = _
      rw [if_neg hji]
    rw [h2] at h1
    have h3 : xFu (g i) (if i = i then X else D i) = [(b, .cells X.toArray 3)] := by rw [if_pos rfl, hg]; rfl
    have h4 : (xBt (fun j => xFu (g j) (if j = i then X else D j)) m).Perm ((b, .cells X.toArray 3) :: xBt (fun j => if j = i then [] else xFu (g j) (D j)) m) := by
     refine h1.trans (List.Perm.of_eq ?_)
     show xFu (g i) (if i = i then X else D i) ++ _ = _
     rw [h3]
     rfl
    exact (((h4.append_right R).cons _).cons _).trans (((List.Perm.swap _ _ _).cons _).trans (List.Perm.swap _ _ _))
   have hD0 : xBt (fun j => xFu (g j) (D j)) m = xBt (fun j => xFu (g j) (if j = i then D i else D j)) m := xCb m fun j _ => by
    by_cases hji : j = i
    ·rw [if_pos hji, hji]
    ·rw [if_neg hji]
   rw [hD0] at hR
   replace hR := hR.permT (hpm (D i))
   have hnext : ∀ X : List Value, IOwn e.cap X e.n (fun _ => -(e.k : Int)) → ∀ j, j < m → xFc (E j) (g j) (if j = i then X else D j) (if j < i + 1 then fun _ => -((E j).k : Int) else f j) := fun X hX j hj => by
    by_cases hji : j = i
    ·subst hji
     rw [he, if_pos rfl, if_pos (by omega)]
     exact .inr ⟨b, hg, ha, hX⟩
    ·have := hD j hj
     rw [if_neg hji]
     by_cases h2 : j < i
     ·rw [if_pos h2] at this; rw [if_pos (by omega)]; exact this
     ·rw [if_neg h2] at this; rw [if_neg (by omega)]; exact this
   have cm := fun w => mark_int e.k (by omega) w
   replace hnext := Held.mk hnext
   replace hpm := Held.mk hpm
   obtain ⟨c0, hc0⟩ : ∃ c, D i = c := ⟨_, rfl⟩
   rw [hc0] at hR ho
   replace ho := Held.mk ho
   clear hD hk hrw hi him hin he hD0 hc0
   repeat (first | (obtain ⟨x, tm', e, ht'⟩ := xAc ht; clear ht; subst e; have ht := ht'; clear ht') | (obtain ⟨tm', e, ht'⟩ := xAa ht; clear ht; subst e; have ht := ht'; clear ht'))
   obtain rfl := xAe ht
   clear ht
   go_wp2_with (first | (refine' aBq hR ?_; clear hR; intro blk w hR) | (refine' aPq hR ?_) | (refine' aMq hR ?_) | (refine' aFq hR ?_; clear hR; intro w hR))
   try simp only [Act.put, kA, kB, List.setIfInBounds_toArray]
   refine' xAv (false :: false :: false :: false :: false :: false :: false :: false :: false :: false :: false :: false :: false :: false :: false :: false :: false :: false :: false :: false :: false :: true :: true :: true :: true :: true :: true :: true :: true :: true :: true :: true :: true :: true :: true :: []) (fun (v : Nat × List Value) l => l.set 4 (.int .i64 (v.1 : Int))) (fun v => (blk, .cells (hrow e).toArray 128) :: (b, .cells v.2.toArray 3) :: (bb, .cells bk.toArray 57) :: (hb, .cells hcur.toArray 128) :: (xBt (fun j => if j = i then [] else xFu (g j) (D j)) m ++ R)) (fun v => e.n - v.1) (fun v => v.1 ≤ e.n ∧ IOwn e.cap v.2 e.n (fun t => if t < v.1 then -(e.k : Int) else f i t)) (0, c0) ?i0 ?iO ?iR ?is
   case i0 => exact xAf rfl rfl rfl
   case iO => exact ⟨Nat.zero_le _, ho.out.le, ho.out.big, ho.out.len, by rw [ho.out.is]; exact xFp fun t _ => by rw [if_neg (Nat.not_lt_zero t)]⟩
   case iR => exact hR
   case is =>
    clear hR ho
    intro v tm w hO ht hR K2 hK2
    obtain ⟨k, cur⟩ := v
    obtain ⟨hkn, ho⟩ := hO
    simp only at hkn ho ht hR
    have k0 : 0 ≤ (k : Int) := by omega
    by_cases hke : k = e.n
    ·have t1 : ¬ (k : Int) < (e.n : Int) := by omega
     have hX : IOwn e.cap cur e.n (fun _ => -(e.k : Int)) := ⟨ho.le, ho.big, ho.len, by rw [ho.is]; exact xFp fun t htt => if_pos (by omega)⟩
     have hnx := hnext.out cur hX
     replace hnx := Held.mk hnx
     clear hK2 ho hX hnext cm hke
     repeat (first | (obtain ⟨x, tm', e, ht'⟩ := xAc ht; clear ht; subst e; have ht := ht'; clear ht') | (obtain ⟨tm', e, ht'⟩ := xAa ht; clear ht; subst e; have ht := ht'; clear ht'))
     obtain rfl := xAe ht
     clear ht
     go_wp2_with (refine' aMq hR ?_)
     exact hK.out (i + 1, fun j => if j = i then cur else D j) _ _ ⟨hi1.out, hnx.out⟩ hmu.out (xAf rfl rfl rfl) (hR.drop1.permT (hpm.out cur).symm)
    ·have hkl : k < e.n := by omega
     have k1 : (k : Int) < (e.n : Int) := by omega
     have ek : IntKind.i64.wrap ((k : Int) + 1) = ((k + 1 : Nat) : Int) := by rw [IntKind.wrap_i64]; omega
     have hk2 : k + 1 ≤ e.n := by omega
     have hmk : e.n - (k + 1) < e.n - k := by omega
     have hX := ho.put (v := -(e.k : Int)) hkl
     have hXi : xHn (fun j => if j = k then -(e.k : Int) else if j < k then -(e.k : Int) else f i j) e.n = xHn (fun t => if t < k + 1 then -(e.k : Int) else f i t) e.n := by
      refine xFp fun t _ => ?_
      by_cases h1 : t = k
      ·rw [if_pos h1, if_pos (by omega)]
      ·rw [if_neg h1]
       by_cases h2 : t < k
       ·rw [if_pos h2, if_pos (by omega)]
       ·rw [if_neg h2, if_neg (by omega)]
     have hX2 : IOwn e.cap (cur.set k (.int .i64 (-(e.k : Int)))) e.n (fun t => if t < k + 1 then -(e.k : Int) else f i t) := ⟨hX.le, hX.big, hX.len, hX.is.trans hXi⟩
     clear hXi
     replace hk2 := Held.mk hk2
     replace hmk := Held.mk hmk
     replace hX2 := Held.mk hX2
     replace ho := Held.mk ho
     have hlt : k < cur.length := by rw [ho.out.len]; have := ho.out.le; omega
     replace hlt := Held.mk hlt
     replace hkl := Held.mk hkl
     clear hK hX hpm hnext hke
     repeat (first | (obtain ⟨x, tm', e, ht'⟩ := xAc ht; clear ht; subst e; have ht := ht'; clear ht') | (obtain ⟨tm', e, ht'⟩ := xAa ht; clear ht; subst e; have ht := ht'; clear ht'))
     obtain rfl := xAe ht
     clear ht
     go_wp2_with (refine' aMq hR ?_)
     refine xAd hR [0, 0, 0, 0, 0, 0, 0, 2] [] xBd (by kernel_rfl) rfl rfl (fun K hK => ?_)
     clear hR
     repeat ((first | (refine xAp ?_) | (refine' xAj (by decide) rfl (.inl rfl) rfl ?ha ?_) | (refine' aXq ?ha ?_) | ((first | refine' xAg (by decide) rfl rfl rfl rfl (fun w => ?hq) ?ha ?_ | refine' xAl (by decide) rfl rfl rfl (fun w => ?hq) ?ha ?_); (case hq => go_simp; try rfl)) | (refine' xAk rfl rfl rfl (xAi Tryz.func135 (by kernel_rfl) (by kernel_rfl) _) (fun w => cm w) ?ha ?_)); try (case ha => simp only [kP, kQ, kA, kB]; try rfl))
     refine xAo (hK _ _ ?_)
     clear hK K
     refine xAr (fun Q hQ => ?_)
     try simp only [List.nil_append, List.cons_append]
     try simp only [kP, kQ, kA, kB]
     refine tl_y (xCi rfl rfl rfl inferInstance rfl rfl hlt.out rfl (.tail .head)) (fun p hp => absurd hp List.not_mem_nil) rfl ?_
     refine xAs (fun w hR => hQ _ _ ?_)
     clear hQ Q
     go_wp2_with (fail)
     exact hK2.out (k + 1, cur.set k (.int .i64 (-(e.k : Int)))) _ _ ⟨hk2.out, hX2.out⟩ hmk.out (xAf rfl rfl rfl) hR
end
end
section
def xHh (e : Ent) (g : Option Nat) (k : Nat) (la : Option Addr) (lc : Nat) (bl : List (Nat × Obj)) : Prop :=
 (∃ b, ∃ cur : List Value, g = some b ∧ e.a = some ⟨b, 0, none⟩ ∧ la = some ⟨b, 0, none⟩ ∧ lc = e.cap ∧ bl = [(b, .cells cur.toArray 3)] ∧ IOwn e.cap cur (e.n + k) (fun _ => -(e.k : Int))) ∨
 ∃ Y : GrI, ∃ cur : List Value, GrIOk Y (e.n + k) (fun _ => -(e.k : Int)) ∧ la = Y.a ∧ lc = Y.cap ∧ bl = Y.bl ++ xFu g cur ∧ xFc e g cur (fun _ => -(e.k : Int))
theorem longOk_startJ {e : Ent} {g : Option Nat} {cur : List Value} (h : xFc e g cur (fun _ => -(e.k : Int))) : xHh e g 0 e.a e.cap (xFu g cur) := by
 rcases h with ⟨h1, h2, h3, h4⟩ | ⟨b, h1, h2, h3⟩
 ·exact .inr ⟨⟨none, 0, []⟩, cur, .inl ⟨rfl, by omega⟩, h2, h4, rfl, .inl ⟨h1, h2, h3, h4⟩⟩
 ·exact .inl ⟨b, cur, h1, h2, h2, rfl, by rw [h1]; rfl, h3⟩
section
variable {w w0 : World} {B0 : Nat} {R : List (Nat × Obj)}
theorem appLong_runJ {ty : TypeId} {e : Ent} {g : Option Nat} {k lc bt n : Nat} {la : Option Addr} {bl : List (Nat × Obj)} (h : xHh e g k la lc bl) (hn : e.n + k = n) (hbig : n ≤ 1000000) (hR : Rep B0 w0 ((bt, .cells [Value.int .i64 (-(e.k : Int))].toArray 3) :: (bl ++ R)) w) :
  ∃ (la' : Option Addr) (lc' : Nat) (bl' : List (Nat × Obj)) (w' : World), (Builtin.append_ #[67, 67] ty #[.slice la n lc, .slice (some ⟨bt, 0, none⟩) 1 1]).run Tryz.prog w = .ok (.slice la' (n + 1 : Nat) lc') w' ∧ xHh e g (k + 1) la' lc' bl' ∧ Rep B0 w0 (bl' ++ R) w' := by
 subst hn
 rcases h with ⟨b, cur, hg, hea, rfl, rfl, rfl, ho⟩ | ⟨Y, cur, hY, rfl, rfl, rfl, hE⟩
 ·by_cases hroom : e.n + k + 1 ≤ e.cap
  ·obtain ⟨x', w', hr, hx', hR'⟩ := xJx (ty := ty) (R := R) (v := -(e.k : Int)) (f := fun _ => -(e.k : Int)) hR (List.Perm.refl _) (ho.grn (g := b)) rfl hbig
   obtain ⟨i, z, hi, hz, hzs, hsize, hby⟩ := xGg
   have hnews : ∀ j u, [Value.int .i64 (-(e.k : Int))][j]? = some u → w.cell? ((⟨bt, 0, none⟩ : Addr).add j) = some u := fun j u hj => by
    rw [xBw, Nat.zero_add]
    exact hR.cell (.head _) hj
   have hrm := run_append_room (P := Tryz.prog) w 67 ty 3 i Tryz.underlying67 hi b (e.n + k) e.cap cur.toArray (hR.own _ (.tail _ (.head _))).2 ⟨bt, 0, none⟩ 1 1 [Value.int .i64 (-(e.k : Int))] (by rw [hsize]; rfl) hnews (one_int _) hroom (by rw [hsize]; have := ho.len; simp; omega)
   have e1 := hr.symm.trans hrm
   have e2 : x'.a = some ⟨b, 0, none⟩ ∧ x'.cap = e.cap := by
    injection e1 with e3 e4
    injection e3 with e5 e6 e7
    exact ⟨e5, e7⟩
   rcases hx' with ⟨_, h0⟩ | ⟨g', cur', q1, q2, q3, q4, q5, q6⟩
   ·omega
   ·have hgb : g' = b := by
     exact congrArg Addr.block (Option.some.inj (q1.symm.trans e2.1))
    subst hgb
    rw [e2.2] at q3 q4 q5
    refine ⟨x'.a, x'.cap, x'.bl, w', hr, .inl ⟨g', cur', hg, hea, e2.1, e2.2, q2, q3, q4, q5, q6⟩, hR'⟩
  ·obtain ⟨i, z, hi, hz, hzs, hsize, hby⟩ := xGg
   have hnews : ∀ j u, [Value.int .i64 (-(e.k : Int))][j]? = some u → w.cell? ((⟨bt, 0, none⟩ : Addr).add j) = some u := fun j u hj => by
    rw [xBw, Nat.zero_add]
    exact hR.cell (.head _) hj
   have holds : ∀ j u, (xHn (fun _ => -(e.k : Int)) (e.n + k))[j]? = some u → w.cell? ((⟨b, 0, none⟩ : Addr).add j) = some u := fun j u hj => by
    rw [xBw, Nat.zero_add]
    rw [← ho.is, List.getElem?_take] at hj
    split at hj
    ·exact hR.cell (.tail _ (.head _)) hj
    ·cases hj
   have hle := ho.le
   have hg1 := run_append_grow (P := Tryz.prog) w 67 ty 3 i z Tryz.underlying67 hi hz ⟨b, 0, none⟩ (e.n + k) e.cap (xHn (fun _ => -(e.k : Int)) (e.n + k)) (by rw [xDd, hsize]; omega) holds ⟨bt, 0, none⟩ 1 1 [Value.int .i64 (-(e.k : Int))] (by rw [hsize]; rfl) hnews (by omega) (by omega) (growslice_fits (by omega) (by rw [hby]; omega))
   have hge := grownCap_ge w (e.n + k + 1) e.cap 3
   have hcm := grownCap_le_maxLen w (e.n + k + 1) e.cap 3 (by unfold maxLen; omega)
   have hR2 := hR.dropN.drew.alloc (.cells ((xHn (fun _ => -(e.k : Int)) (e.n + k)).toArray ++ [Value.int .i64 (-(e.k : Int))].toArray ++ Builtin.zeroCells z.cells (grownCap w (e.n + k + 1) e.cap 3 - (e.n + k + 1))) 3)
   obtain ⟨A, hA⟩ : ∃ A, (xHn (fun _ => -(e.k : Int)) (e.n + k)).toArray ++ [Value.int .i64 (-(e.k : Int))].toArray ++ Builtin.zeroCells z.cells (grownCap w (e.n + k + 1) e.cap 3 - (e.n + k + 1)) = A := ⟨_, rfl⟩
   rw [hA] at hg1 hR2
   refine ⟨_, _, [(w.heap.size, .cells A.toList.toArray 3)] ++ xFu g cur, _, hg1, .inr ⟨⟨some ⟨w.heap.size, 0, none⟩, grownCap w (e.n + k + 1) e.cap 3, [(w.heap.size, .cells A.toList.toArray 3)]⟩, cur, .inr ⟨w.heap.size, A.toList, rfl, rfl, hge, hcm, ?_, ?_⟩, rfl, rfl, rfl, .inr ⟨b, hg, hea, ho.less⟩⟩, ?_⟩
   ·rw [← hA]
    simp only [Array.length_toList, Array.size_append, List.size_toArray, size_zeroCells, hzs, xDd, List.length_cons, List.length_nil]
    omega
   ·rw [← hA]
    simp only [Array.toList_append]
    rw [← Nat.add_assoc, xIg]
    exact List.take_left' (by simp only [List.length_append, xDd, List.length_cons, List.length_nil])
   ·rw [hg]
    simpa [xFu] using hR2
 ·obtain ⟨x', w', hr, hx', hR'⟩ := xJx (ty := ty) (R := xFu g cur ++ R) (v := -(e.k : Int)) (f := fun _ => -(e.k : Int)) hR (by rw [List.append_assoc]) hY rfl hbig
  exact ⟨x'.a, x'.cap, x'.bl ++ xFu g cur, w', hr, .inr ⟨x', cur, hx', rfl, rfl, rfl, hE⟩, by rw [List.append_assoc]; exact hR'⟩
end
end
section
attribute [local irreducible] Calls Instr.build Instr.buildSlice
section
variable {B0 : Nat} {w0 w : World} {R M : List (Nat × Obj)} {ops : Array Oper} {rest : List Oper} {o : Oper} {a : Act} {Q : Exit → Act → World → Prop}
theorem xJd {e : Ent} {g : Option Nat} {k lc bt n : Nat} {la : Option Addr} {bl : List (Nat × Obj)} (hR : Rep B0 w0 M w) (hp : M.Perm ((bt, .cells [Value.int .i64 (-(e.k : Int))].toArray 3) :: (bl ++ R))) (hgd : o.guard = none) {s y : Operand} (ho : o.op = .call { callee := .builtin .append, args := #[s, y], argTypes := #[67, 67] })
  (hs : a.eval s = .slice la n lc) (hy : a.eval y = .slice (some ⟨bt, 0, none⟩) 1 1) (h : xHh e g k la lc bl) (hn : e.n + k = n) (hbig : n ≤ 1000000)
  (hK : ∀ la' lc' bl' w', xHh e g (k + 1) la' lc' bl' → Rep B0 w0 (bl' ++ R) w' → wpList Tryz.prog ops Q rest (a.put o.dst (.slice la' (n + 1 : Nat) lc')) w') : wpList Tryz.prog ops Q (o :: rest) a w :=
 wpList_plain hgd fun _ hK' => by
  obtain ⟨la', lc', bl', w', hr, h', hR'⟩ := appLong_runJ (ty := o.type) h hn hbig (hR.permN hp)
  unfold Oper.wp execOp
  simp only [ho, resolve, invoke, builtin, Sem.run_bind, Sem.run_pure, Result.andThen_ok, List.map_toArray, List.map_cons, List.map_nil, hs, hy, hr]
  exact hK' _ _ (hK la' lc' bl' w' h' hR')
end
end
section
def GrownJ (e e' : Ent) (g : Option Nat) (bl : List (Nat × Obj)) : Prop := e'.a = e.a ∧ e'.n = e.n ∧ e'.cap = e.cap ∧ e'.k = e.k ∧ e'.ln = e.n + 40 ∧ xHh e g 40 e'.la e'.lc bl
attribute [local irreducible] Calls Instr.build Instr.buildSlice
section
variable {B0 : Nat} {w0 w : World} {R : List (Nat × Obj)} {bb hb : Nat} {E : Nat → Ent} {g : Nat → Option Nat} {hcur bk : List Value} {m hc : Nat}
theorem grow_numJ {C : Nat → List Value} (hm : m ≤ 1000) (hbk : bk[2]? = some (.slice (some ⟨hb, 0, none⟩) m hc)) (hrw : ∀ j, j < m → (hcur.drop (j * 3)).take 3 = hrow (E j)) (hl : m * 3 ≤ hcur.length) (hk : ∀ j, j < m → (E j).k ≤ 1000000 ∧ (E j).n ≤ 900000) (hE : ∀ j, j < m → xFc (E j) (g j) (C j) (fun _ => -((E j).k : Int)))
  (hR : Rep B0 w0 ((bb, .cells bk.toArray 57) :: (hb, .cells hcur.toArray 128) :: (xBt (fun j => xFu (g j) (C j)) m ++ R)) w) :
  Calls Tryz.prog 67 #[.pointer (some ⟨bb, 0, none⟩)] w fun e w' => e = .returned (.tuple #[]) ∧ ∃ (E' : Nat → Ent) (hcur' : List Value) (F' : Nat → List (Nat × Obj)), hcur'.length = hcur.length ∧ (∀ j, j < m → (hcur'.drop (j * 3)).take 3 = hrow (E' j) ∧ GrownJ (E j) (E' j) (g j) (F' j)) ∧ Rep B0 w0 ((bb, .cells bk.toArray 57) :: (hb, .cells hcur'.toArray 128) :: (xBt F' m ++ R)) w' := by
 replace hk := Held.mk hk
 replace hE := Held.mk hE
 go_enter Tryz.func67, Tryz.ntmps67
 go_wp2_with (fail)
 try simp only [Act.put, kA, kB, List.setIfInBounds_toArray]
 refine' xAv (false :: false :: false :: true :: true :: true :: true :: true :: true :: true :: true :: true :: true :: true :: true :: true :: true :: true :: true :: true :: true :: true :: true :: true :: true :: true :: true :: true :: true :: true :: true :: true :: true :: true :: true :: true :: true :: true :: true :: true :: true :: true :: []) (fun (v : Nat × (Nat → Ent) × List Value × (Nat → List (Nat × Obj))) l => l.set 2 (.int .i64 (v.1 : Int))) (fun v => (bb, .cells bk.toArray 57) :: (hb, .cells v.2.2.1.toArray 128) :: (xBt v.2.2.2 m ++ R)) (fun v => m - v.1) (fun v => v.1 ≤ m ∧ v.2.2.1.length = hcur.length ∧ ∀ j, j < m → (v.2.2.1.drop (j * 3)).take 3 = hrow (v.2.1 j) ∧ (j < v.1 → GrownJ (E j) (v.2.1 j) (g j) (v.2.2.2 j)) ∧ (¬ j < v.1 → v.2.1 j = E j ∧ v.2.2.2 j = xFu (g j) (C j))) (0, E, hcur, fun j => xFu (g j) (C j)) ?h0 ?hO ?hR ?hs
 case h0 => exact xAf rfl rfl rfl
 case hO => exact ⟨Nat.zero_le _, rfl, fun j hj => ⟨hrw j hj, fun h => absurd h (Nat.not_lt_zero j), fun _ => ⟨rfl, rfl⟩⟩⟩
 case hR => exact hR
 case hs =>
  clear hR hrw
  intro v tm w hO ht hR K hK
  obtain ⟨i, G, hcu, F⟩ := v
  obtain ⟨hi, hlen, hD⟩ := hO
  simp only at hi hlen hD ht hR
  have g0 : 0 ≤ (i : Int) := by omega
  by_cases him : i = m
  ·subst him
   have t1 : ¬ (i : Int) < (i : Int) := by omega
   have hfin : ∀ j, j < i → (hcu.drop (j * 3)).take 3 = hrow (G j) ∧ GrownJ (E j) (G j) (g j) (F j) := fun j hj => ⟨(hD j hj).1, (hD j hj).2.1 hj⟩
   replace hfin := Held.mk hfin
   replace hlen := Held.mk hlen
   clear hK hD hi
   repeat (first | (obtain ⟨x, tm', e, ht'⟩ := xAc ht; clear ht; subst e; have ht := ht'; clear ht') | (obtain ⟨tm', e, ht'⟩ := xAa ht; clear ht; subst e; have ht := ht'; clear ht'))
   obtain rfl := xAe ht
   clear ht
   go_wp2_with (refine' aMq hR ?_)
   go_end0
   exact ⟨rfl, G, hcu, hlen.out, F, hfin.out, hR⟩
  have hin : i < m := by omega
  have g1 : (i : Int) < (m : Int) := by omega
  have ei : IntKind.i64.wrap ((i : Int) + 1) = ((i + 1 : Nat) : Int) := by rw [IntKind.wrap_i64]; omega
  have hi1 : i + 1 ≤ m := by omega
  have hmu : m - (i + 1) < m - i := by omega
  replace hi1 := Held.mk hi1
  replace hmu := Held.mk hmu
  obtain ⟨row, _, h3⟩ := hD i hin
  obtain ⟨hGi, hFi⟩ := h3 (Nat.lt_irrefl i)
  rw [hGi] at row
  obtain ⟨hk1, hn1⟩ := hk.out i hin
  have hEi := longOk_startJ (hE.out i hin)
  rw [← hFi] at hEi
  obtain ⟨en, he⟩ : ∃ e, E i = e := ⟨_, rfl⟩
  rw [he] at row hk1 hn1 hEi
  have hgr : i * 3 + 3 ≤ hcu.length := by omega
  have hset : i * 3 + 1 < hcu.length := by omega
  have hpm : ∀ (o : Obj) (X : List (Nat × Obj)), ((bb, Obj.cells bk.toArray 57) :: (hb, o) :: (xBt (fun j => if j = i then X else F j) m ++ R)).Perm ((bb, Obj.cells bk.toArray 57) :: (hb, o) :: (X ++ (xBt (fun j => if j = i then [] else F j) m ++ R))) := fun o X => by
   have h1 := xFg (F := fun j => if j = i then X else F j) (i := i) m hin
   have h2 : xBt (fun j => if j = i then [] else (fun j => if j = i then X else F j) j) m = xBt (fun j => if j = i then [] else F j) m := xCb m fun j _ => by
    by_cases hji : j = i
    ·rw [if_pos hji, if_pos hji]
    ·rw [if_neg hji, if_neg hji]
     show (if j = i then X else F j) = _
     rw [if_neg hji]
   rw [h2] at h1
   have h4 : (xBt (fun j => if j = i then X else F j) m).Perm (X ++ xBt (fun j => if j = i then [] else F j) m) := by
    refine h1.trans (List.Perm.of_eq ?_)
    show (if i = i then X else F i) ++ _ = _
    rw [if_pos rfl]
   have h5 := h4.append_right R
   rw [List.append_assoc] at h5
   exact (h5.cons _).cons _
  have hF0 : xBt F m = xBt (fun j => if j = i then F i else F j) m := xCb m fun j _ => by
   by_cases hji : j = i
   ·rw [if_pos hji, hji]
   ·rw [if_neg hji]
  rw [hF0] at hR
  replace hR := hR.permT (hpm _ (F i))
  have cm := fun w => mark_int en.k (by omega) w
  have hnext : ∀ (la : Option Addr) (lc : Nat) (X : List (Nat × Obj)), xHh en (g i) 40 la lc X → ∀ j, j < m → ((hcu.set (i * 3 + 1) (.slice la (en.n + 40) lc)).drop (j * 3)).take 3 = hrow (if j = i then { en with la := la, ln := en.n + 40, lc := lc } else G j) ∧ (j < i + 1 → GrownJ (E j) (if j = i then { en with la := la, ln := en.n + 40, lc := lc } else G j) (g j) (if j = i then X else F j)) ∧ (¬ j < i + 1 → (if j = i then { en with la := la, ln := en.n + 40, lc := lc } else G j) = E j ∧ (if j = i then X else F j) = xFu (g j) (C j)) := fun la lc X hX j hj => by
   obtain ⟨r1, r2, r3⟩ := hD j hj
   have rs := hrow_set (v := .slice la (en.n + 40) lc) (by omega : m * 3 ≤ hcu.length) hin hj (show (hcu.drop (j * 3)).take 3 = [_, _, _] from r1)
   by_cases hji : j = i
   ·subst hji
    rw [if_pos rfl] at rs
    rw [if_pos rfl, if_pos rfl]
    refine ⟨?_, fun _ => ?_, fun h => absurd (Nat.lt_succ_self j) h⟩
    ·rw [rs, hGi, he]; rfl
    ·rw [he]; exact ⟨rfl, rfl, rfl, rfl, rfl, hX⟩
   ·rw [if_neg hji] at rs
    rw [if_neg hji, if_neg hji]
    exact ⟨rs, fun h => r2 (by omega), fun h => r3 (by omega)⟩
  have hlen2 : ∀ v : Value, (hcu.set (i * 3 + 1) v).length = hcur.length := fun v => by rw [List.length_set]; exact hlen
  replace hnext := Held.mk hnext
  replace hpm := Held.mk hpm
  replace hlen2 := Held.mk hlen2
  replace hEi := Held.mk hEi
  generalize F i = fi at *
  clear hD hk hE hi him he hF0 hGi hFi h3 hlen
  repeat (first | (obtain ⟨x, tm', e, ht'⟩ := xAc ht; clear ht; subst e; have ht := ht'; clear ht') | (obtain ⟨tm', e, ht'⟩ := xAa ht; clear ht; subst e; have ht := ht'; clear ht'))
  obtain rfl := xAe ht
  clear ht
  go_wp2_with (first | (refine' aBq hR ?_; clear hR; intro blk w hR) | (refine' aPq hR ?_) | (refine' aMq hR ?_) | (refine' aFq hR ?_; clear hR; intro w hR))
  try simp only [Act.put, kA, kB, List.setIfInBounds_toArray]
  refine' xAv (false :: false :: false :: false :: false :: false :: false :: false :: false :: false :: false :: false :: false :: false :: false :: false :: false :: false :: false :: false :: false :: false :: false :: false :: true :: true :: true :: true :: true :: true :: true :: true :: true :: true :: false :: false :: false :: false :: false :: false :: false :: false :: []) (fun (v : Nat × Option Addr × Nat × List (Nat × Obj)) l => (l.set 5 (.int .i64 (v.1 : Int))).set 4 (.slice v.2.1 (en.n + v.1) v.2.2.1)) (fun v => (blk, .cells (hrow en).toArray 128) :: (bb, .cells bk.toArray 57) :: (hb, .cells hcu.toArray 128) :: (v.2.2.2 ++ (xBt (fun j => if j = i then [] else F j) m ++ R))) (fun v => 40 - v.1) (fun v => v.1 ≤ 40 ∧ xHh en (g i) v.1 v.2.1 v.2.2.1 v.2.2.2) (0, en.a, en.cap, fi) ?i0 ?iO ?iR ?is
  case i0 => exact xAf rfl rfl rfl
  case iO => exact ⟨Nat.zero_le _, hEi.out⟩
  case iR => exact hR
  case is =>
   clear hR hEi
   intro v tm w hO ht hR K2 hK2
   obtain ⟨k, la, lc, bl⟩ := v
   obtain ⟨hk40, hG⟩ := hO
   simp only at hk40 hG ht hR
   have k0 : 0 ≤ (k : Int) := by omega
   by_cases hke : k = 40
   ·subst hke
    have t1 : ¬ (40 : Int) < 40 := by omega
    obtain ⟨nl40, hn40⟩ : ∃ x, en.n + 40 = x := ⟨_, rfl⟩
    have hnx := hnext.out la lc bl hG
    replace hnx := Held.mk hnx
    replace hn40 := Held.mk hn40
    have hsv : hcu.set (i * 3 + 1) (.slice la (en.n + 40) lc) = hcu.set (i * 3 + 1) (.slice la (en.n + 40) lc) := rfl
    clear hK2 hG hnext cm
    repeat (first | (obtain ⟨x, tm', e, ht'⟩ := xAc ht; clear ht; subst e; have ht := ht'; clear ht') | (obtain ⟨tm', e, ht'⟩ := xAa ht; clear ht; subst e; have ht := ht'; clear ht'))
    obtain rfl := xAe ht
    clear ht
    go_wp2_with (first | (refine' aMq hR ?_) | (refine' aYq hR hset ?_; clear hR; intro w hR))
    refine hK.out (i + 1, fun j => if j = i then { en with la := la, ln := en.n + 40, lc := lc } else G j, hcu.set (i * 3 + 1) (.slice la (en.n + 40) lc), fun j => if j = i then bl else F j) _ _ ⟨hi1.out, hlen2.out _, hnx.out⟩ hmu.out (xAf rfl rfl rfl) (hR.drop1.permT (hpm.out _ bl).symm)
   ·have hkl : k < 40 := by omega
    have k1 : (k : Int) < 40 := by omega
    have ek : IntKind.i64.wrap ((k : Int) + 1) = ((k + 1 : Nat) : Int) := by rw [IntKind.wrap_i64]; omega
    have hk2 : k + 1 ≤ 40 := by omega
    have hmk : 40 - (k + 1) < 40 - k := by omega
    have hbig : en.n + k ≤ 1000000 := by omega
    have ekc : ((k + 1 : Nat) : Int) = (k : Int) + 1 := by omega
    replace ekc := Held.mk ekc
    replace hk2 := Held.mk hk2
    replace hmk := Held.mk hmk
    replace hG := Held.mk hG
    clear hK hnext hpm hke
    repeat (first | (obtain ⟨x, tm', e, ht'⟩ := xAc ht; clear ht; subst e; have ht := ht'; clear ht') | (obtain ⟨tm', e, ht'⟩ := xAa ht; clear ht; subst e; have ht := ht'; clear ht'))
    obtain rfl := xAe ht
    clear ht
    go_wp2_with (first | (refine' aMq hR ?_) | (go_at_call 135; refine (cm _).mono ?_; rintro e w ⟨rfl, hb⟩; replace hR := hR.call hb; clear hb) | (refine' xBz hR (xGx rfl rfl rfl) ?_; clear hR; intro bt w hR) | (refine' xJd (e := en) (g := g i) (k := k) (bl := bl) (R := (blk, .cells (hrow en).toArray 128) :: (bb, .cells bk.toArray 57) :: (hb, .cells hcu.toArray 128) :: (xBt (fun j => if j = i then [] else F j) m ++ R)) hR (List.Perm.cons _ (List.perm_append_comm_assoc [_, _, _] bl _)) rfl rfl rfl rfl hG.out rfl hbig ?_; clear hR; intro la' lc' bl' w hG' hR))
    exact hK2.out (k + 1, la', lc', bl') _ _ ⟨hk2.out, hG'⟩ hmk.out (by simp only [ekc.out]; exact xAf rfl rfl rfl) (hR.permT (List.perm_append_comm_assoc bl' [_, _, _] _))
end
end
end Go.Proofs.YtaaahfjpnggkbaaGreatDoor
