/- The contracts of sigs.exponents, sigs.signs and of its closure. -/
import Derived.Test.YtgfoeongjhkdmaaGreatRF
import Derived.Test.YtgfoeongjhkdmaaGreatRK
import Derived.Test.YtgfoeongjhkdmaaGreatRW
set_option linter.unusedVariables false
set_option linter.unusedSimpArgs false
namespace Go.Proofs.YtgfoeongjhkdmaaGreat
open Go.RowKit
attribute [local irreducible] Calls Instr.build Instr.buildSlice
noncomputable def chalN : Nat → Nat → (Nat → Nat) → Nat → Nat := opq fun key r H q => hnumN (strB ⟨#[115, 105, 103, 110]⟩) [plN key, plN r, b32 H] q
theorem chalN_def (key r : Nat) (H : Nat → Nat) (q : Nat) : chalN key r H q = hnumN (strB ⟨#[115, 105, 103, 110]⟩) [plN key, plN r, b32 H] q := by unfold chalN; rw [xCe]
theorem hnum_lt {q : Nat} (h : q ≠ 0) (s : List Nat) (xss : List (List Nat)) : hnumN s xss q < q := by unfold hnumN; rw [widN_def, if_neg h]; exact Nat.mod_lt _ (by omega)
theorem chalN_lt {q : Nat} (h : q ≠ 0) (key r : Nat) (H : Nat → Nat) : chalN key r H q < q := by rw [chalN_def]; exact hnum_lt h _ _
section
variable {B0 : Nat} {w0 w : World} {L : List (Nat × Obj)}
def okX (q x y : Nat) : Prop := 1 < q ∧ x < q ∧ y < q
instance decOkX (q x y : Nat) : Decidable (okX q x y) := by unfold okX; exact inferInstance
set_option maxRecDepth 100000 in
set_option maxHeartbeats 4000000 in
theorem exps_lit {p q g h x y b : Nat} {s : Bool} (hq : q < B) (hx : x < B) (hy : y < B) (hs : decide (okX q x y) = s) (hm : (b, Obj.cells (nl2 x y).toArray 24) ∈ L) (hR : Rep B0 w0 L w) :
    Calls Tryz.prog 9 #[grp p q g h, .slice (some ⟨b, 0, none⟩) 2 2] w fun e w' => e = .returned (.bool s) ∧ Rep B0 w0 L w' := by
  obtain ⟨e1, he1⟩ : ∃ e, (if okM x x q then (0 : Int) else 1) = e := ⟨_, rfl⟩
  obtain ⟨e2, he2⟩ : ∃ e, (if okM y y q then (0 : Int) else 1) = e := ⟨_, rfl⟩
  have a1 := sadd_lit (p := p) (g := g) (h := h) hx hx hq rfl he1
  have a2 := sadd_lit (p := p) (g := g) (h := h) hy hy hq rfl he2
  generalize (if okM x x q then (x + x) % q else 0) = r1 at *
  generalize (if okM y y q then (y + y) % q else 0) = r2 at *
  have t0 : ((nl2 x y).drop 0).take 4 = nl x := rfl
  have t4 : ((nl2 x y).drop 4).take 4 = nl y := rfl
  have hc : (e1 = 1 ∧ s = false) ∨ (e1 = 0 ∧ e2 = 1 ∧ s = false) ∨ (e1 = 0 ∧ e2 = 0 ∧ s = true) := by
    by_cases h1 : okM x x q
    · rw [if_pos h1] at he1
      by_cases h2 : okM y y q
      · rw [if_pos h2] at he2
        exact .inr (.inr ⟨he1.symm, he2.symm, by rw [← hs]; exact decide_eq_true ⟨h1.1, h1.2.1, h2.2.1⟩⟩)
      · rw [if_neg h2] at he2
        exact .inr (.inl ⟨he1.symm, he2.symm, by rw [← hs]; exact decide_eq_false fun h => h2 ⟨h.1, h.2.2, h.2.2⟩⟩)
    · rw [if_neg h1] at he1
      exact .inl ⟨he1.symm, by rw [← hs]; exact decide_eq_false fun h => h1 ⟨h.1, h.2.1, h.2.1⟩⟩
  clear hs he1 he2
  generalize nl2 x y = row at *
  rcases hc with ⟨rfl, rfl⟩ | ⟨rfl, rfl, rfl⟩ | ⟨rfl, rfl, rfl⟩
  · clear a2
    go_enter Tryz.func9, Tryz.ntmps9
    go_wp2_with (first | (refine' xAb hR rfl rfl rfl ?_; clear hR; intro blk w hR) | (refine' xAa hR rfl rfl inferInstance ?_; clear hR; intro blk w hR) | (refine' aFq hR rfl rfl rfl inferInstance ?_) | (refine' aGq hR rfl rfl rfl inferInstance ?_) | (refine' aHq hR rfl rfl rfl inferInstance ?_) | (refine' aDq hR rfl rfl rfl inferInstance rfl ?_; clear hR; intro w hR) | (refine' aEq hR rfl rfl rfl inferInstance rfl rfl ?_; clear hR; intro w hR) | fail)
    refine wp_loop_rounds 3 ?_
    rw [rounds_succ]
    go_wp2_with (first | (refine' xAb hR rfl rfl rfl ?_; clear hR; intro blk w hR) | (refine' xAa hR rfl rfl inferInstance ?_; clear hR; intro blk w hR) | (refine' aFq hR rfl rfl rfl inferInstance ?_) | (refine' aGq hR rfl rfl rfl inferInstance ?_) | (refine' aHq hR rfl rfl rfl inferInstance ?_) | (refine' aDq hR rfl rfl rfl inferInstance rfl ?_; clear hR; intro w hR) | (refine' aEq hR rfl rfl rfl inferInstance rfl rfl ?_; clear hR; intro w hR) | (go_at_call 12; refine (a1 _).mono ?_; rintro e w ⟨rfl, hb⟩; replace hR := hR.call hb; clear hb))
    go_ret
    exact ⟨rfl, hR.weaken (by repeat (first | exact List.Sublist.refl _ | apply List.Sublist.cons))⟩
  · go_enter Tryz.func9, Tryz.ntmps9
    go_wp2_with (first | (refine' xAb hR rfl rfl rfl ?_; clear hR; intro blk w hR) | (refine' xAa hR rfl rfl inferInstance ?_; clear hR; intro blk w hR) | (refine' aFq hR rfl rfl rfl inferInstance ?_) | (refine' aGq hR rfl rfl rfl inferInstance ?_) | (refine' aHq hR rfl rfl rfl inferInstance ?_) | (refine' aDq hR rfl rfl rfl inferInstance rfl ?_; clear hR; intro w hR) | (refine' aEq hR rfl rfl rfl inferInstance rfl rfl ?_; clear hR; intro w hR) | fail)
    refine wp_loop_rounds 3 ?_
    rw [rounds_succ]
    go_wp2_with (first | (refine' xAb hR rfl rfl rfl ?_; clear hR; intro blk w hR) | (refine' xAa hR rfl rfl inferInstance ?_; clear hR; intro blk w hR) | (refine' aFq hR rfl rfl rfl inferInstance ?_) | (refine' aGq hR rfl rfl rfl inferInstance ?_) | (refine' aHq hR rfl rfl rfl inferInstance ?_) | (refine' aDq hR rfl rfl rfl inferInstance rfl ?_; clear hR; intro w hR) | (refine' aEq hR rfl rfl rfl inferInstance rfl rfl ?_; clear hR; intro w hR) | (go_at_call 12; refine (a1 _).mono ?_; rintro e w ⟨rfl, hb⟩; replace hR := hR.call hb; clear hb))
    rw [rounds_succ]
    go_wp2_with (first | (refine' xAb hR rfl rfl rfl ?_; clear hR; intro blk w hR) | (refine' xAa hR rfl rfl inferInstance ?_; clear hR; intro blk w hR) | (refine' aFq hR rfl rfl rfl inferInstance ?_) | (refine' aGq hR rfl rfl rfl inferInstance ?_) | (refine' aHq hR rfl rfl rfl inferInstance ?_) | (refine' aDq hR rfl rfl rfl inferInstance rfl ?_; clear hR; intro w hR) | (refine' aEq hR rfl rfl rfl inferInstance rfl rfl ?_; clear hR; intro w hR) | (go_at_call 12; refine (a2 _).mono ?_; rintro e w ⟨rfl, hb⟩; replace hR := hR.call hb; clear hb))
    go_ret
    exact ⟨rfl, hR.weaken (by repeat (first | exact List.Sublist.refl _ | apply List.Sublist.cons))⟩
  · go_enter Tryz.func9, Tryz.ntmps9
    go_wp2_with (first | (refine' xAb hR rfl rfl rfl ?_; clear hR; intro blk w hR) | (refine' xAa hR rfl rfl inferInstance ?_; clear hR; intro blk w hR) | (refine' aFq hR rfl rfl rfl inferInstance ?_) | (refine' aGq hR rfl rfl rfl inferInstance ?_) | (refine' aHq hR rfl rfl rfl inferInstance ?_) | (refine' aDq hR rfl rfl rfl inferInstance rfl ?_; clear hR; intro w hR) | (refine' aEq hR rfl rfl rfl inferInstance rfl rfl ?_; clear hR; intro w hR) | fail)
    refine wp_loop_rounds 3 ?_
    rw [rounds_succ]
    go_wp2_with (first | (refine' xAb hR rfl rfl rfl ?_; clear hR; intro blk w hR) | (refine' xAa hR rfl rfl inferInstance ?_; clear hR; intro blk w hR) | (refine' aFq hR rfl rfl rfl inferInstance ?_) | (refine' aGq hR rfl rfl rfl inferInstance ?_) | (refine' aHq hR rfl rfl rfl inferInstance ?_) | (refine' aDq hR rfl rfl rfl inferInstance rfl ?_; clear hR; intro w hR) | (refine' aEq hR rfl rfl rfl inferInstance rfl rfl ?_; clear hR; intro w hR) | (go_at_call 12; refine (a1 _).mono ?_; rintro e w ⟨rfl, hb⟩; replace hR := hR.call hb; clear hb))
    rw [rounds_succ]
    go_wp2_with (first | (refine' xAb hR rfl rfl rfl ?_; clear hR; intro blk w hR) | (refine' xAa hR rfl rfl inferInstance ?_; clear hR; intro blk w hR) | (refine' aFq hR rfl rfl rfl inferInstance ?_) | (refine' aGq hR rfl rfl rfl inferInstance ?_) | (refine' aHq hR rfl rfl rfl inferInstance ?_) | (refine' aDq hR rfl rfl rfl inferInstance rfl ?_; clear hR; intro w hR) | (refine' aEq hR rfl rfl rfl inferInstance rfl rfl ?_; clear hR; intro w hR) | (go_at_call 12; refine (a2 _).mono ?_; rintro e w ⟨rfl, hb⟩; replace hR := hR.call hb; clear hb))
    rw [rounds_succ]
    go_wp2_with (first | (refine' xAb hR rfl rfl rfl ?_; clear hR; intro blk w hR) | (refine' xAa hR rfl rfl inferInstance ?_; clear hR; intro blk w hR) | (refine' aFq hR rfl rfl rfl inferInstance ?_) | (refine' aGq hR rfl rfl rfl inferInstance ?_) | (refine' aHq hR rfl rfl rfl inferInstance ?_) | (refine' aDq hR rfl rfl rfl inferInstance rfl ?_; clear hR; intro w hR) | (refine' aEq hR rfl rfl rfl inferInstance rfl rfl ?_; clear hR; intro w hR) | fail)
    go_ret
    exact ⟨rfl, hR.weaken (by repeat (first | exact List.Sublist.refl _ | apply List.Sublist.cons))⟩
end
end Go.Proofs.YtgfoeongjhkdmaaGreat
namespace Go.Proofs.YtgfoeongjhkdmaaGreat
open Go.RowKit
theorem rows_three (a1 a2 a3 : Option Addr) (n1 c1 n2 c2 n3 c3 : Nat) (w : World) : (Instr.buildSlice 65 3 #[(0, .slice a1 n1 c1), (1, .slice a2 n2 c2), (2, .slice a3 n3 c3)]).run Tryz.prog w = .ok (.slice (some ⟨w.heap.size, 0, none⟩) 3 3) (w.alloc (.cells [Value.slice a1 n1 c1, .slice a2 n2 c2, .slice a3 n3 c3].toArray 49)) := by go_simp
attribute [local irreducible] Calls Instr.build Instr.buildSlice
theorem isNew_three {P : Program} {o : Oper} {a : Act} {ty el : TypeId} {x y z : Operand} {v u t : Value} (hg : o.guard = none) (hop : o.op = .buildSlice ty 3 #[(0, x), (1, y), (2, z)]) (hx : ev a x = some v) (hy : ev a y = some u) (hz : ev a z = some t) (hrun : ∀ w, (Instr.buildSlice ty 3 #[(0, v), (1, u), (2, t)]).run P w = .ok (.slice (some ⟨w.heap.size, 0, none⟩) 3 3) (w.alloc (.cells [v, u, t].toArray el))) : IsNew P o a (.cells [v, u, t].toArray el) (fun b => .slice (some ⟨b, 0, none⟩) 3 3) :=
  ⟨hg, fun w => by
    have hx := xBt hx
    have hy := xBt hy
    have hz := xBt hz
    unfold execOp
    simp only [hop, List.map_toArray, List.map_cons, List.map_nil, hx, hy, hz, hrun, Sem.run_bind, Result.andThen_ok, Sem.run_pure]⟩
section
variable {B0 : Nat} {w0 w : World} {L : List (Nat × Obj)}
theorem yields_move {P : Program} {ops : Array Oper} {o : Oper} {a : Act} (hg : o.guard = none) {x : Operand} (hop : o.op = .assign x) {v : Value} (hx' : ev a x = some v) : xBy P ops o v a (Rep B0 w0 L) (Rep B0 w0 L) :=
  .inl ⟨wanted_of hg _, fun w hR => by
    have hx := xBt hx'
    unfold execOp
    subst hx
    rw [hop]
    exact ⟨rfl, hR⟩⟩
abbrev sigCl (b3 b4 b5 : Nat) : Value := .func (.func 27) #[] #[.pointer (some ⟨b3, 0, none⟩), .pointer (some ⟨b4, 0, none⟩), .pointer (some ⟨b5, 0, none⟩)]
set_option maxRecDepth 100000 in
set_option maxHeartbeats 4000000 in
theorem signs_any (p q g h key : Nat) (H : Nat → Nat) (hR : Rep B0 w0 L w) : Calls Tryz.prog 10 #[grp p q g h, num key, .agg (u8s 32 H).toArray] w fun e w' =>
    ∃ b3 b4 b5, e = .returned (sigCl b3 b4 b5) ∧ Rep B0 w0 ((b5, .cells (u8s 32 H).toArray 28) :: (b4, .cells (nl key).toArray 24) :: (b3, .cells (gl p q g h).toArray 26) :: L) w' := by
  go_enter Tryz.func10, Tryz.ntmps10
  go_wp2_with (first | (refine' xAb hR rfl rfl rfl ?_; clear hR; intro blk w hR) | (refine' xAa hR rfl rfl inferInstance ?_; clear hR; intro blk w hR) | (refine' aFq hR rfl rfl rfl inferInstance ?_) | (refine' aGq hR rfl rfl rfl inferInstance ?_) | (refine' aHq hR rfl rfl rfl inferInstance ?_) | (refine' aDq hR rfl rfl rfl inferInstance rfl ?_; clear hR; intro w hR) | (refine' aEq hR rfl rfl rfl inferInstance rfl rfl ?_; clear hR; intro w hR) | fail)
  go_ret
  exact ⟨_, _, _, rfl, hR⟩
theorem rows_three_at {rb g1 g2 b5 cap1 cap2 : Nat} {cur1 cur2 : List Value} {ys1 ys2 : List Nat} {H : Nat → Nat} {t : TypeId} (l1 : ys1.length = 32) (l2 : ys2.length = 32) (o1 : OwnOk cap1 cur1 ys1) (o2 : OwnOk cap2 cur2 ys2) (hH : ∀ i, H i < 256)
    (hr : (rb, Obj.cells [Value.slice (some ⟨g1, 0, none⟩) 32 cap1, .slice (some ⟨g2, 0, none⟩) 32 cap2, .slice (some ⟨b5, 0, none⟩) 32 32].toArray 49) ∈ L) (h1 : (g1, Obj.cells cur1.toArray 5) ∈ L) (h2 : (g2, Obj.cells cur2.toArray 5) ∈ L) (h3 : (b5, Obj.cells (u8s 32 H).toArray t) ∈ L) (hR : Rep B0 w0 L w) :
    RowsOf B0 w0 L (.slice (some ⟨rb, 0, none⟩) 3 3) [ys1, ys2, b32 H] := by
  have s1 : xBo B0 w0 L _ ys1 := own_at o1 h1
  have s2 : xBo B0 w0 L _ ys2 := own_at o2 h2
  rw [l1] at s1
  rw [l2] at s2
  have s3 : xBo B0 w0 L (.slice (some ⟨b5, 0, none⟩) 32 32) (b32 H) :=
    ⟨_, 32, by rw [xCl], by rw [xCl]; exact Nat.le_refl _, by unfold maxLen; omega, b32_lt H hH, fun _ => ⟨b5, 0, rfl, fun w' hw j hj => by
      rw [xCl] at hj
      rw [Nat.zero_add, b32_at H hj]
      exact hw.cell h3 (u8s_at hj)⟩⟩
  have big : 32 ≤ reachBytes := by unfold reachBytes; decide
  refine ⟨_, 3, fun j => if j = 0 then .slice (some ⟨g1, 0, none⟩) 32 cap1 else if j = 1 then .slice (some ⟨g2, 0, none⟩) 32 cap2 else .slice (some ⟨b5, 0, none⟩) 32 32, rfl, Nat.le_refl _, by unfold maxLen; decide, fun j hj => ?_, fun _ => ⟨rb, 0, rfl, fun w hw j hj => ?_⟩⟩
  · match j with
    | 0 => exact ⟨s1, by show ys1.length ≤ _; rw [l1]; exact big⟩
    | 1 => exact ⟨s2, by show ys2.length ≤ _; rw [l2]; exact big⟩
    | 2 => exact ⟨s3, by show (b32 H).length ≤ _; rw [xCl]; exact big⟩
    | j + 3 => exact absurd hj (by simp)
  · match j with
    | 0 => exact hw.cell (off := 0) hr rfl
    | 1 => exact hw.cell (off := 1) hr rfl
    | 2 => exact hw.cell (off := 2) hr rfl
    | j + 3 => exact absurd hj (by simp)
theorem xCk (n : Nat) : (plN n).length = 32 := xDj _
def Made (B0 : Nat) (w0 : World) (L : List (Nat × Obj)) (ys : List Nat) (v : Value) (M : List (Nat × Obj)) : Prop := ∃ g cap cur, v = .slice (some ⟨g, 0, none⟩) 32 cap ∧ OwnOk cap cur ys ∧ M = (g, .cells cur.toArray 5) :: L
theorem put_made (n : Nat) (hR : Rep B0 w0 L w) : Calls Tryz.prog 29 #[.slice none 0 0, num n] w fun e w' => ∃ v, e = .returned v ∧ outW B0 w0 (Made B0 w0 L (plN n)) v w' :=
  (put_long n hR).mono fun e w' ⟨g, cap, he, cur, ho, hR'⟩ => ⟨_, he, _, ⟨g, cap, cur, by rw [xCk], ho, rfl⟩, hR'⟩
set_option maxRecDepth 100000 in
set_option maxHeartbeats 8000000 in
theorem sig_closure {p q g h key r b3 b4 b5 c : Nat} {H : Nat → Nat} (hq : q < B) (hc : chalN key r H q = c) (hH : ∀ i, H i < 256) (m3 : (b3, Obj.cells (gl p q g h).toArray 26) ∈ L) (m4 : (b4, Obj.cells (nl key).toArray 24) ∈ L) (m5 : (b5, Obj.cells (u8s 32 H).toArray 28) ∈ L) (hR : Rep B0 w0 L w) :
    Calls Tryz.prog 27 #[num r, .pointer (some ⟨b3, 0, none⟩), .pointer (some ⟨b4, 0, none⟩), .pointer (some ⟨b5, 0, none⟩)] w fun e w' => e = .returned (num c) ∧ Rep B0 w0 L w' := by
  have tq := gl_q p q g h
  rw [chalN_def] at hc
  have cn := fun (M : List (Nat × Obj)) (rb g1 g2 cap1 cap2 : Nat) (cur1 cur2 : List Value) (o1 : OwnOk cap1 cur1 (plN key)) (o2 : OwnOk cap2 cur2 (plN r)) (hr : (rb, Obj.cells [Value.slice (some ⟨g1, 0, none⟩) 32 cap1, .slice (some ⟨g2, 0, none⟩) 32 cap2, .slice (some ⟨b5, 0, none⟩) 32 32].toArray 49) ∈ M) (h1 : (g1, Obj.cells cur1.toArray 5) ∈ M) (h2 : (g2, Obj.cells cur2.toArray 5) ∈ M) (h3 : (b5, Obj.cells (u8s 32 H).toArray 28) ∈ M) (w : World) (hR : Rep B0 w0 M w) =>
    hash_number q ⟨#[115, 105, 103, 110]⟩ (.slice (some ⟨rb, 0, none⟩) 3 3) [plN key, plN r, b32 H] hq (by decide) (by show 3 < 1000; decide) (fun j hj => by
      match j with
      | 0 => show (plN key).length ≤ _; rw [xCk]; decide
      | 1 => show (plN r).length ≤ _; rw [xCk]; decide
      | 2 => show (b32 H).length ≤ _; rw [xCl]; decide
      | j + 3 => exact absurd hj (by simp)) (rows_three_at (xCk _) (xCk _) o1 o2 hH hr h1 h2 h3 hR) hR
  rw [hc] at cn
  obtain ⟨er, her⟩ : ∃ e : Int, (if q = 0 then 1 else 0) = e := ⟨_, rfl⟩
  rw [her] at cn
  replace cn := Held.mk cn
  clear her hc
  go_enter Tryz.func27, Tryz.ntmps27
  go_wp2_with (first | (refine' xAb hR rfl rfl rfl ?_; clear hR; intro blk w hR) | (refine' xAa hR rfl rfl inferInstance ?_; clear hR; intro blk w hR) | (refine' aFq hR rfl rfl rfl inferInstance ?_) | (refine' aGq hR rfl rfl rfl inferInstance ?_) | (refine' aHq hR rfl rfl rfl inferInstance ?_) | (refine' aDq hR rfl rfl rfl inferInstance rfl ?_; clear hR; intro w hR) | (refine' aEq hR rfl rfl rfl inferInstance rfl rfl ?_; clear hR; intro w hR) | fail)
  obtain ⟨b6', hb6⟩ : ∃ x, x = blk := ⟨_, rfl⟩
  subst hb6
  rename_i w1 w2 K0 kz
  obtain ⟨b0, hb0⟩ : ∃ x, x = blk := ⟨_, rfl⟩
  subst hb0
  simp only [kP, kQ, kA, kB]
  refine wp_region_F hR 15 xCt rfl ?_
  clear hR
  refine fHeads [(b3, Obj.cells (gl p q g h).toArray 26), (b4, Obj.cells (nl key).toArray 24), (b5, Obj.cells (u8s 32 H).toArray 28), (b0, Obj.cells (nl r).toArray 24)] [1, 1, 1, 2, 1, 2, 1, 2, 2, 2, 2, 2, 2, 2, 2] 10 rfl (by repeat (first | exact xBu | refine xBn (by repeat (first | exact .head _ | with_reducible assumption | apply mC)) ?_)) (by repeat (first | exact xBu | refine xBn (by repeat (first | exact .head _ | with_reducible assumption | apply mC)) ?_)) rfl (by decide +kernel) (fun K hK => ?_)
  repeat ((first | (refine xBj ?_) | (refine' xAs (by decide) rfl (.inl rfl) rfl ?ha ?_) | (refine' xAs (by decide) rfl (.inr rfl) rfl ?ha ?_) | (refine' xAr rfl rfl rfl inferInstance ?hm ?hn ?ha ?_; (case hm => first | with_reducible assumption | repeat (first | exact .head _ | with_reducible assumption | apply mC)); (case hn => first | rfl | simp)) | (refine' xAm rfl rfl rfl inferInstance ?hm ?hv ?hn ?ha ?_; (case hm => first | with_reducible assumption | repeat (first | exact .head _ | with_reducible assumption | apply mC)); (case hv => first | with_reducible assumption | (simp only [kC, kD, kE, kF]; try rfl)); (case hn => first | rfl | simp)) | (refine' xAi rfl rfl rfl inferInstance ?hm ?hv ?ha ?_; (case hm => first | with_reducible assumption | repeat (first | exact .head _ | with_reducible assumption | apply mC)); (case hv => first | rfl | with_reducible assumption)) | (refine' xAn rfl rfl rfl inferInstance ?hm ?hv ?hn ?ha ?_; (case hm => first | with_reducible assumption | repeat (first | exact .head _ | with_reducible assumption | apply mC)); (case hv => first | with_reducible assumption | (simp only [kC, kD, kE, kF]; try rfl)); (case hn => first | rfl | simp)) | (refine' xAj rfl rfl rfl inferInstance ?hm ?hv ?ha ?_; (case hm => first | with_reducible assumption | repeat (first | exact .head _ | with_reducible assumption | apply mC)); (case hv => first | rfl | with_reducible assumption)) | ((first | refine' xAd (by decide) rfl rfl rfl rfl (fun w => ?hq) ?ha ?_ | refine' xBf (by decide) rfl rfl rfl rfl (fun w => ?hq) ?ha ?_ | refine' xAp (by decide) rfl rfl rfl (fun w => ?hq) ?ha ?_ | refine' xAe (by decide) rfl rfl rfl (fun w => ?hq) ?ha ?_ | refine' xAo (by decide) rfl rfl rfl (fun w => ?hq) ?ha ?_ | refine' xBd (by decide) rfl rfl rfl rfl (fun w => ?hq) ?ha ?_ | refine' xBc (by decide) rfl rfl rfl rfl rfl rfl (fun w => ?hq) ?ha ?_ | refine' xBb (by decide) rfl rfl (fun w => ?hq) ?ha ?_ | refine' xAq (by decide) rfl rfl rfl (fun w => ?hq) ?ha ?_ | refine' xBe (by decide) rfl rfl rfl (fun w => ?hq) ?ha ?_); (case hq => go_simp; try rfl)) | (refine' xAh (by decide) rfl rfl rfl ?ha ?_) | (refine' xBl (by decide) rfl rfl rfl rfl ?ha ?_) | (refine' xBk (by decide) rfl ?ha ?_) | fail); try (case ha => simp only [kP, kQ, kA, kB]; try rfl))
  refine xBs (hK _ _ ?_)
  clear hK K
  repeat' (first
    | exact f_nil
    | (refine f_is 3 ?_; refine f_call _ rfl rfl rfl rfl rfl (xBi Tryz.func29 (by kernel_rfl) (by kernel_rfl) _) (fun w hw => put_made key hw) (fun v M hM => ?_) ?_; (obtain ⟨g1, cap1, cur1, rfl, o1, rfl⟩ := hM; replace o1 := Held.mk o1; refine ⟨(by repeat (first | exact xBu | refine xBn (by repeat (first | exact .head _ | with_reducible assumption | apply mC)) ?_)), ?_⟩; try simp only [Act.put, kA, kB, List.setIfInBounds_toArray]))
    | (refine f_is 5 ?_; refine f_call _ rfl rfl rfl rfl rfl (xBi Tryz.func29 (by kernel_rfl) (by kernel_rfl) _) (fun w hw => put_made r hw) (fun v M hM => ?_) ?_; (obtain ⟨g2, cap2, cur2, rfl, o2, rfl⟩ := hM; replace o2 := Held.mk o2; refine ⟨(by repeat (first | exact xBu | refine xBn (by repeat (first | exact .head _ | with_reducible assumption | apply mC)) ?_)), ?_⟩; try simp only [Act.put, kA, kB, List.setIfInBounds_toArray]))
    | (refine f_is 12 ?_; refine f_new rfl rfl (isNew_allocR rfl rfl) (by repeat (first | exact xBu | refine xBn (by repeat (first | exact .head _ | with_reducible assumption | apply mC)) ?_)) (fun b6 => ?_) ?_; try simp only [Act.put, kA, kB, List.setIfInBounds_toArray])
    | (refine f_is 7 ?_; refine f_new rfl rfl (isNew_three rfl rfl rfl rfl rfl (rows_three _ _ _ _ _ _ _ _ _)) (by repeat (first | exact xBu | refine xBn (by repeat (first | exact .head _ | with_reducible assumption | apply mC)) ?_)) (fun rb => ?_) ?_; try simp only [Act.put, kA, kB, List.setIfInBounds_toArray])
    | (refine f_is 8 ?_; refine f_y rfl rfl (yields_call rfl rfl rfl (xBi Tryz.func28 (by kernel_rfl) (by kernel_rfl) _) (fun w hw => cn.out _ _ _ _ _ _ _ _ o1.out o2.out (by repeat (first | exact .head _ | with_reducible assumption | apply mC)) (by repeat (first | exact .head _ | with_reducible assumption | apply mC)) (by repeat (first | exact .head _ | with_reducible assumption | apply mC)) (by repeat (first | exact .head _ | with_reducible assumption | apply mC)) w hw)) (by repeat (first | exact xBu | refine xBn (by repeat (first | exact .head _ | with_reducible assumption | apply mC)) ?_)) ?_ ?_; try simp only [Act.put, kA, kB, List.setIfInBounds_toArray])
    | (refine f_is 13 ?_; refine f_s rfl rfl (xDf rfl rfl rfl inferInstance rfl rfl rfl rfl (by repeat (first | exact xAx.head | apply xAx.tail))) (by repeat (first | exact xBu | refine xBn (by repeat (first | exact .head _ | with_reducible assumption | apply mC)) ?_)) ?_ ?_; try simp only [Act.put, kA, kB, List.setIfInBounds_toArray])
    | (refine f_is 14 ?_; refine f_y rfl rfl (yields_move rfl rfl rfl) (by repeat (first | exact xBu | refine xBn (by repeat (first | exact .head _ | with_reducible assumption | apply mC)) ?_)) ?_ ?_; try simp only [Act.put, kA, kB, List.setIfInBounds_toArray])
    | refine f_at [3, 12] (by decide +kernel) rfl ?_
    | refine f_at [5, 12] (by decide +kernel) rfl ?_
    | refine f_at [7, 12] (by decide +kernel) rfl ?_
    | refine f_at [8, 12] (by decide +kernel) rfl ?_
    | refine f_at [3] (by decide +kernel) rfl ?_
    | refine f_at [5] (by decide +kernel) rfl ?_
    | refine f_at [7] (by decide +kernel) rfl ?_
    | refine f_at [8] (by decide +kernel) rfl ?_
    | refine f_at [12] (by decide +kernel) rfl ?_
    | refine f_at [13] (by decide +kernel) rfl ?_
    | refine f_at [14] (by decide +kernel) rfl ?_
    | refine f_at [13, 14] (by decide +kernel) rfl ?_
    | refine f_at [12, 14] (by decide +kernel) rfl ?_
    | (refine fHeads [(b3, Obj.cells (gl p q g h).toArray 26), (b4, Obj.cells (nl key).toArray 24), (b5, Obj.cells (u8s 32 H).toArray 28), (b0, Obj.cells (nl r).toArray 24)] [2, 2, 2, 2, 2, 2, 2, 2, 2, 1, 1, 1, 2, 2, 2] 3 rfl (by repeat (first | exact xBu | refine xBn (by repeat (first | exact .head _ | with_reducible assumption | apply mC)) ?_)) (by repeat (first | exact xBu | refine xBn (by repeat (first | exact .head _ | with_reducible assumption | apply mC)) ?_)) rfl (by decide +kernel) (fun K hK => ?_); (repeat ((first | (refine xBj ?_) | (refine' xAs (by decide) rfl (.inl rfl) rfl ?ha ?_) | (refine' xAs (by decide) rfl (.inr rfl) rfl ?ha ?_) | (refine' xAr rfl rfl rfl inferInstance ?hm ?hn ?ha ?_; (case hm => first | with_reducible assumption | repeat (first | exact .head _ | with_reducible assumption | apply mC)); (case hn => first | rfl | simp)) | (refine' xAm rfl rfl rfl inferInstance ?hm ?hv ?hn ?ha ?_; (case hm => first | with_reducible assumption | repeat (first | exact .head _ | with_reducible assumption | apply mC)); (case hv => first | with_reducible assumption | (simp only [kC, kD, kE, kF]; try rfl)); (case hn => first | rfl | simp)) | (refine' xAi rfl rfl rfl inferInstance ?hm ?hv ?ha ?_; (case hm => first | with_reducible assumption | repeat (first | exact .head _ | with_reducible assumption | apply mC)); (case hv => first | rfl | with_reducible assumption)) | (refine' xAn rfl rfl rfl inferInstance ?hm ?hv ?hn ?ha ?_; (case hm => first | with_reducible assumption | repeat (first | exact .head _ | with_reducible assumption | apply mC)); (case hv => first | with_reducible assumption | (simp only [kC, kD, kE, kF]; try rfl)); (case hn => first | rfl | simp)) | (refine' xAj rfl rfl rfl inferInstance ?hm ?hv ?ha ?_; (case hm => first | with_reducible assumption | repeat (first | exact .head _ | with_reducible assumption | apply mC)); (case hv => first | rfl | with_reducible assumption)) | ((first | refine' xAd (by decide) rfl rfl rfl rfl (fun w => ?hq) ?ha ?_ | refine' xBf (by decide) rfl rfl rfl rfl (fun w => ?hq) ?ha ?_ | refine' xAp (by decide) rfl rfl rfl (fun w => ?hq) ?ha ?_ | refine' xAe (by decide) rfl rfl rfl (fun w => ?hq) ?ha ?_ | refine' xAo (by decide) rfl rfl rfl (fun w => ?hq) ?ha ?_ | refine' xBd (by decide) rfl rfl rfl rfl (fun w => ?hq) ?ha ?_ | refine' xBc (by decide) rfl rfl rfl rfl rfl rfl (fun w => ?hq) ?ha ?_ | refine' xBb (by decide) rfl rfl (fun w => ?hq) ?ha ?_ | refine' xAq (by decide) rfl rfl rfl (fun w => ?hq) ?ha ?_ | refine' xBe (by decide) rfl rfl rfl (fun w => ?hq) ?ha ?_); (case hq => go_simp; try rfl)) | (refine' xAh (by decide) rfl rfl rfl ?ha ?_) | (refine' xBl (by decide) rfl rfl rfl rfl ?ha ?_) | (refine' xBk (by decide) rfl ?ha ?_) | fail); try (case ha => simp only [kP, kQ, kA, kB]; try rfl))); refine xBs (hK _ _ ?_); clear hK K)
    | (refine fHeads [(b3, Obj.cells (gl p q g h).toArray 26), (b4, Obj.cells (nl key).toArray 24), (b5, Obj.cells (u8s 32 H).toArray 28), (b0, Obj.cells (nl r).toArray 24)] [2, 2, 2, 2, 2, 2, 2, 2, 2, 1, 1, 1, 2, 2, 2] 2 rfl (by repeat (first | exact xBu | refine xBn (by repeat (first | exact .head _ | with_reducible assumption | apply mC)) ?_)) (by repeat (first | exact xBu | refine xBn (by repeat (first | exact .head _ | with_reducible assumption | apply mC)) ?_)) rfl (by decide +kernel) (fun K hK => ?_); (repeat ((first | (refine xBj ?_) | (refine' xAs (by decide) rfl (.inl rfl) rfl ?ha ?_) | (refine' xAs (by decide) rfl (.inr rfl) rfl ?ha ?_) | (refine' xAr rfl rfl rfl inferInstance ?hm ?hn ?ha ?_; (case hm => first | with_reducible assumption | repeat (first | exact .head _ | with_reducible assumption | apply mC)); (case hn => first | rfl | simp)) | (refine' xAm rfl rfl rfl inferInstance ?hm ?hv ?hn ?ha ?_; (case hm => first | with_reducible assumption | repeat (first | exact .head _ | with_reducible assumption | apply mC)); (case hv => first | with_reducible assumption | (simp only [kC, kD, kE, kF]; try rfl)); (case hn => first | rfl | simp)) | (refine' xAi rfl rfl rfl inferInstance ?hm ?hv ?ha ?_; (case hm => first | with_reducible assumption | repeat (first | exact .head _ | with_reducible assumption | apply mC)); (case hv => first | rfl | with_reducible assumption)) | (refine' xAn rfl rfl rfl inferInstance ?hm ?hv ?hn ?ha ?_; (case hm => first | with_reducible assumption | repeat (first | exact .head _ | with_reducible assumption | apply mC)); (case hv => first | with_reducible assumption | (simp only [kC, kD, kE, kF]; try rfl)); (case hn => first | rfl | simp)) | (refine' xAj rfl rfl rfl inferInstance ?hm ?hv ?ha ?_; (case hm => first | with_reducible assumption | repeat (first | exact .head _ | with_reducible assumption | apply mC)); (case hv => first | rfl | with_reducible assumption)) | ((first | refine' xAd (by decide) rfl rfl rfl rfl (fun w => ?hq) ?ha ?_ | refine' xBf (by decide) rfl rfl rfl rfl (fun w => ?hq) ?ha ?_ | refine' xAp (by decide) rfl rfl rfl (fun w => ?hq) ?ha ?_ | refine' xAe (by decide) rfl rfl rfl (fun w => ?hq) ?ha ?_ | refine' xAo (by decide) rfl rfl rfl (fun w => ?hq) ?ha ?_ | refine' xBd (by decide) rfl rfl rfl rfl (fun w => ?hq) ?ha ?_ | refine' xBc (by decide) rfl rfl rfl rfl rfl rfl (fun w => ?hq) ?ha ?_ | refine' xBb (by decide) rfl rfl (fun w => ?hq) ?ha ?_ | refine' xAq (by decide) rfl rfl rfl (fun w => ?hq) ?ha ?_ | refine' xBe (by decide) rfl rfl rfl (fun w => ?hq) ?ha ?_); (case hq => go_simp; try rfl)) | (refine' xAh (by decide) rfl rfl rfl ?ha ?_) | (refine' xBl (by decide) rfl rfl rfl rfl ?ha ?_) | (refine' xBk (by decide) rfl ?ha ?_) | fail); try (case ha => simp only [kP, kQ, kA, kB]; try rfl))); refine xBs (hK _ _ ?_); clear hK K))
  all_goals refine f_end (by decide +kernel) (fun w hR => ?_)
  all_goals simp only [Exit.then]
  all_goals refine kz _ _ ?_
  all_goals clear kz
  all_goals go_wp2_with (first | (refine' xAb hR rfl rfl rfl ?_; clear hR; intro blk w hR) | (refine' xAa hR rfl rfl inferInstance ?_; clear hR; intro blk w hR) | (refine' aFq hR rfl rfl rfl inferInstance ?_) | (refine' aGq hR rfl rfl rfl inferInstance ?_) | (refine' aHq hR rfl rfl rfl inferInstance ?_) | (refine' aDq hR rfl rfl rfl inferInstance rfl ?_; clear hR; intro w hR) | (refine' aEq hR rfl rfl rfl inferInstance rfl rfl ?_; clear hR; intro w hR) | fail)
  all_goals (refine' bodyPost_ret (xBq Tryz.results27 rfl (hR.loadAll (P := Tryz.prog) (ty := 24) ?hm ?hn)) rfl ⟨rfl, hR.weaken (by repeat (first | exact List.Sublist.refl _ | apply List.Sublist.cons))⟩; (case hm => repeat (first | exact .head _ | apply mC)); (case hn => rfl))
end
end Go.Proofs.YtgfoeongjhkdmaaGreat
