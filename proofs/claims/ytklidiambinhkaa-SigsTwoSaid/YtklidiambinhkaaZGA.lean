/- The contracts of sigs.exponents, sigs.signs and of its closure. -/
import Derived.Test.YtklidiambinhkaaZPutW
import Derived.Test.YtklidiambinhkaaZK
import Derived.Test.YtklidiambinhkaaZRegF
import Derived.Test.YtklidiambinhkaaZW
set_option linter.unusedVariables false
set_option linter.unusedSimpArgs false
namespace Go.Proofs.Ytklidiambinhkaa
open Go.RowKit
attribute [local irreducible] Calls Instr.build Instr.buildSlice
noncomputable def chalN : Nat → Nat → (Nat → Nat) → Nat → Nat := opq fun key r H q => hnumN (strB ⟨#[115, 105, 103, 110]⟩) [plN key, plN r, b32 H] q
theorem chalN_def (key r : Nat) (H : Nat → Nat) (q : Nat) : chalN key r H q = hnumN (strB ⟨#[115, 105, 103, 110]⟩) [plN key, plN r, b32 H] q := by unfold chalN; rw [xCc]
theorem hnum_lt {q : Nat} (h : q ≠ 0) (s : List Nat) (xss : List (List Nat)) : hnumN s xss q < q := by unfold hnumN; rw [widN_def, if_neg h]; exact Nat.mod_lt _ (by omega)
theorem chalN_lt {q : Nat} (h : q ≠ 0) (key r : Nat) (H : Nat → Nat) : chalN key r H q < q := by rw [chalN_def]; exact hnum_lt h _ _
section
variable {B0 : Nat} {w0 w : World} {L : List (Nat × Obj)}
def okX (q x y : Nat) : Prop := 1 < q ∧ x < q ∧ y < q
instance decOkX (q x y : Nat) : Decidable (okX q x y) := by unfold okX; exact inferInstance
set_option maxRecDepth 100000 in
set_option maxHeartbeats 4000000 in
theorem exps_lit {p q g h x y b : Nat} {s : Bool} (hq : q < B) (hx : x < B) (hy : y < B) (hs : decide (okX q x y) = s) (hm : (b, Obj.cells (nl2 x y).toArray 24) ∈ L) (hR : Rep B0 w0 L w) :
    Calls Try.prog 28 #[grp p q g h, .slice (some ⟨b, 0, none⟩) 2 2] w fun e w' => e = .returned (.bool s) ∧ Rep B0 w0 L w' := by
  obtain ⟨e1, he1⟩ : ∃ e, (if okM x x q then (0 : Int) else 1) = e := ⟨_, rfl⟩
  obtain ⟨e2, he2⟩ : ∃ e, (if okM y y q then (0 : Int) else 1) = e := ⟨_, rfl⟩
  have a1 := sadd_lit (p := p) (g := g) (h := h) hx hx hq rfl he1
  have a2 := sadd_lit (p := p) (g := g) (h := h) hy hy hq rfl he2
  generalize (if okM x x q then (x + x) % q else 0) = r1 at *
  generalize (if okM y y q then (y + y) % q else 0) = r2 at *
  have t0 : ((nl2 x y).drop 0).take 4 = nl x := rfl
  have t4 : ((nl2 x y).drop 4).take 4 = nl y := rfl
  have hc : (e1 = 1 ∧ s = false) ∨ (e1 = 0 ∧ e2 = 1 ∧ s = false) ∨ (e1 = 0 ∧ e2 = 0 ∧ s = true) := by
    by_cases h1 : okM x x q
    · rw [if_pos h1] at he1
      by_cases h2 : okM y y q
      · rw [if_pos h2] at he2
        exact .inr (.inr ⟨he1.symm, he2.symm, by rw [← hs]; exact decide_eq_true ⟨h1.1, h1.2.1, h2.2.1⟩⟩)
      · rw [if_neg h2] at he2
        exact .inr (.inl ⟨he1.symm, he2.symm, by rw [← hs]; exact decide_eq_false fun h => h2 ⟨h.1, h.2.2, h.2.2⟩⟩)
    · rw [if_neg h1] at he1
      exact .inl ⟨he1.symm, by rw [← hs]; exact decide_eq_false fun h => h1 ⟨h.1, h.2.1, h.2.1⟩⟩
  clear hs he1 he2
  generalize nl2 x y = row at *
  rcases hc with ⟨rfl, rfl⟩ | ⟨rfl, rfl, rfl⟩ | ⟨rfl, rfl, rfl⟩
  · clear a2
    go_enter Try.func28, Try.ntmps28
    go_wp2_with (first | (refine' xAf hR rfl rfl rfl ?_; clear hR; intro blk w hR) | (refine' xAb hR rfl rfl inferInstance ?_; clear hR; intro blk w hR) | (refine' xAc hR rfl rfl rfl inferInstance ?hm ?hn ?_; (case hm => first | with_reducible assumption | repeat (first | exact .head _ | with_reducible assumption | apply mC)); (case hn => first | rfl | simp)) | (refine' xAd hR rfl rfl rfl inferInstance ?hm ?hv ?hn ?_; (case hm => first | with_reducible assumption | repeat (first | exact .head _ | with_reducible assumption | apply mC)); (case hv => first | with_reducible assumption | (simp only [kC, kD, kE, kF]; try rfl)); (case hn => first | rfl | simp)) | (refine' xAa hR rfl rfl rfl inferInstance rfl ?hs ?zone ?zvn ?hn ?_; (case hs => repeat (first | exact xAh.head | apply xAh.tail)); (case zone => first | rfl | with_reducible assumption); (case zvn => first | rfl | simp); (case hn => first | rfl | simp); clear hR; intro w hR) | fail)
    refine wp_loop_rounds 3 ?_
    rw [rounds_succ]
    go_wp2_with (first | (refine' xAf hR rfl rfl rfl ?_; clear hR; intro blk w hR) | (refine' xAb hR rfl rfl inferInstance ?_; clear hR; intro blk w hR) | (refine' xAc hR rfl rfl rfl inferInstance ?hm ?hn ?_; (case hm => first | with_reducible assumption | repeat (first | exact .head _ | with_reducible assumption | apply mC)); (case hn => first | rfl | simp)) | (refine' xAd hR rfl rfl rfl inferInstance ?hm ?hv ?hn ?_; (case hm => first | with_reducible assumption | repeat (first | exact .head _ | with_reducible assumption | apply mC)); (case hv => first | with_reducible assumption | (simp only [kC, kD, kE, kF]; try rfl)); (case hn => first | rfl | simp)) | (refine' xAa hR rfl rfl rfl inferInstance rfl ?hs ?zone ?zvn ?hn ?_; (case hs => repeat (first | exact xAh.head | apply xAh.tail)); (case zone => first | rfl | with_reducible assumption); (case zvn => first | rfl | simp); (case hn => first | rfl | simp); clear hR; intro w hR) | (go_at_call 19; refine (a1 _).mono ?_; rintro e w ⟨rfl, hb⟩; replace hR := hR.call hb; clear hb))
    go_ret
    exact ⟨rfl, hR.weaken (by repeat (first | exact List.Sublist.refl _ | apply List.Sublist.cons))⟩
  · go_enter Try.func28, Try.ntmps28
    go_wp2_with (first | (refine' xAf hR rfl rfl rfl ?_; clear hR; intro blk w hR) | (refine' xAb hR rfl rfl inferInstance ?_; clear hR; intro blk w hR) | (refine' xAc hR rfl rfl rfl inferInstance ?hm ?hn ?_; (case hm => first | with_reducible assumption | repeat (first | exact .head _ | with_reducible assumption | apply mC)); (case hn => first | rfl | simp)) | (refine' xAd hR rfl rfl rfl inferInstance ?hm ?hv ?hn ?_; (case hm => first | with_reducible assumption | repeat (first | exact .head _ | with_reducible assumption | apply mC)); (case hv => first | with_reducible assumption | (simp only [kC, kD, kE, kF]; try rfl)); (case hn => first | rfl | simp)) | (refine' xAa hR rfl rfl rfl inferInstance rfl ?hs ?zone ?zvn ?hn ?_; (case hs => repeat (first | exact xAh.head | apply xAh.tail)); (case zone => first | rfl | with_reducible assumption); (case zvn => first | rfl | simp); (case hn => first | rfl | simp); clear hR; intro w hR) | fail)
    refine wp_loop_rounds 3 ?_
    rw [rounds_succ]
    go_wp2_with (first | (refine' xAf hR rfl rfl rfl ?_; clear hR; intro blk w hR) | (refine' xAb hR rfl rfl inferInstance ?_; clear hR; intro blk w hR) | (refine' xAc hR rfl rfl rfl inferInstance ?hm ?hn ?_; (case hm => first | with_reducible assumption | repeat (first | exact .head _ | with_reducible assumption | apply mC)); (case hn => first | rfl | simp)) | (refine' xAd hR rfl rfl rfl inferInstance ?hm ?hv ?hn ?_; (case hm => first | with_reducible assumption | repeat (first | exact .head _ | with_reducible assumption | apply mC)); (case hv => first | with_reducible assumption | (simp only [kC, kD, kE, kF]; try rfl)); (case hn => first | rfl | simp)) | (refine' xAa hR rfl rfl rfl inferInstance rfl ?hs ?zone ?zvn ?hn ?_; (case hs => repeat (first | exact xAh.head | apply xAh.tail)); (case zone => first | rfl | with_reducible assumption); (case zvn => first | rfl | simp); (case hn => first | rfl | simp); clear hR; intro w hR) | (go_at_call 19; refine (a1 _).mono ?_; rintro e w ⟨rfl, hb⟩; replace hR := hR.call hb; clear hb))
    rw [rounds_succ]
    go_wp2_with (first | (refine' xAf hR rfl rfl rfl ?_; clear hR; intro blk w hR) | (refine' xAb hR rfl rfl inferInstance ?_; clear hR; intro blk w hR) | (refine' xAc hR rfl rfl rfl inferInstance ?hm ?hn ?_; (case hm => first | with_reducible assumption | repeat (first | exact .head _ | with_reducible assumption | apply mC)); (case hn => first | rfl | simp)) | (refine' xAd hR rfl rfl rfl inferInstance ?hm ?hv ?hn ?_; (case hm => first | with_reducible assumption | repeat (first | exact .head _ | with_reducible assumption | apply mC)); (case hv => first | with_reducible assumption | (simp only [kC, kD, kE, kF]; try rfl)); (case hn => first | rfl | simp)) | (refine' xAa hR rfl rfl rfl inferInstance rfl ?hs ?zone ?zvn ?hn ?_; (case hs => repeat (first | exact xAh.head | apply xAh.tail)); (case zone => first | rfl | with_reducible assumption); (case zvn => first | rfl | simp); (case hn => first | rfl | simp); clear hR; intro w hR) | (go_at_call 19; refine (a2 _).mono ?_; rintro e w ⟨rfl, hb⟩; replace hR := hR.call hb; clear hb))
    go_ret
    exact ⟨rfl, hR.weaken (by repeat (first | exact List.Sublist.refl _ | apply List.Sublist.cons))⟩
  · go_enter Try.func28, Try.ntmps28
    go_wp2_with (first | (refine' xAf hR rfl rfl rfl ?_; clear hR; intro blk w hR) | (refine' xAb hR rfl rfl inferInstance ?_; clear hR; intro blk w hR) | (refine' xAc hR rfl rfl rfl inferInstance ?hm ?hn ?_; (case hm => first | with_reducible assumption | repeat (first | exact .head _ | with_reducible assumption | apply mC)); (case hn => first | rfl | simp)) | (refine' xAd hR rfl rfl rfl inferInstance ?hm ?hv ?hn ?_; (case hm => first | with_reducible assumption | repeat (first | exact .head _ | with_reducible assumption | apply mC)); (case hv => first | with_reducible assumption | (simp only [kC, kD, kE, kF]; try rfl)); (case hn => first | rfl | simp)) | (refine' xAa hR rfl rfl rfl inferInstance rfl ?hs ?zone ?zvn ?hn ?_; (case hs => repeat (first | exact xAh.head | apply xAh.tail)); (case zone => first | rfl | with_reducible assumption); (case zvn => first | rfl | simp); (case hn => first | rfl | simp); clear hR; intro w hR) | fail)
    refine wp_loop_rounds 3 ?_
    rw [rounds_succ]
    go_wp2_with (first | (refine' xAf hR rfl rfl rfl ?_; clear hR; intro blk w hR) | (refine' xAb hR rfl rfl inferInstance ?_; clear hR; intro blk w hR) | (refine' xAc hR rfl rfl rfl inferInstance ?hm ?hn ?_; (case hm => first | with_reducible assumption | repeat (first | exact .head _ | with_reducible assumption | apply mC)); (case hn => first | rfl | simp)) | (refine' xAd hR rfl rfl rfl inferInstance ?hm ?hv ?hn ?_; (case hm => first | with_reducible assumption | repeat (first | exact .head _ | with_reducible assumption | apply mC)); (case hv => first | with_reducible assumption | (simp only [kC, kD, kE, kF]; try rfl)); (case hn => first | rfl | simp)) | (refine' xAa hR rfl rfl rfl inferInstance rfl ?hs ?zone ?zvn ?hn ?_; (case hs => repeat (first | exact xAh.head | apply xAh.tail)); (case zone => first | rfl | with_reducible assumption); (case zvn => first | rfl | simp); (case hn => first | rfl | simp); clear hR; intro w hR) | (go_at_call 19; refine (a1 _).mono ?_; rintro e w ⟨rfl, hb⟩; replace hR := hR.call hb; clear hb))
    rw [rounds_succ]
    go_wp2_with (first | (refine' xAf hR rfl rfl rfl ?_; clear hR; intro blk w hR) | (refine' xAb hR rfl rfl inferInstance ?_; clear hR; intro blk w hR) | (refine' xAc hR rfl rfl rfl inferInstance ?hm ?hn ?_; (case hm => first | with_reducible assumption | repeat (first | exact .head _ | with_reducible assumption | apply mC)); (case hn => first | rfl | simp)) | (refine' xAd hR rfl rfl rfl inferInstance ?hm ?hv ?hn ?_; (case hm => first | with_reducible assumption | repeat (first | exact .head _ | with_reducible assumption | apply mC)); (case hv => first | with_reducible assumption | (simp only [kC, kD, kE, kF]; try rfl)); (case hn => first | rfl | simp)) | (refine' xAa hR rfl rfl rfl inferInstance rfl ?hs ?zone ?zvn ?hn ?_; (case hs => repeat (first | exact xAh.head | apply xAh.tail)); (case zone => first | rfl | with_reducible assumption); (case zvn => first | rfl | simp); (case hn => first | rfl | simp); clear hR; intro w hR) | (go_at_call 19; refine (a2 _).mono ?_; rintro e w ⟨rfl, hb⟩; replace hR := hR.call hb; clear hb))
    rw [rounds_succ]
    go_wp2_with (first | (refine' xAf hR rfl rfl rfl ?_; clear hR; intro blk w hR) | (refine' xAb hR rfl rfl inferInstance ?_; clear hR; intro blk w hR) | (refine' xAc hR rfl rfl rfl inferInstance ?hm ?hn ?_; (case hm => first | with_reducible assumption | repeat (first | exact .head _ | with_reducible assumption | apply mC)); (case hn => first | rfl | simp)) | (refine' xAd hR rfl rfl rfl inferInstance ?hm ?hv ?hn ?_; (case hm => first | with_reducible assumption | repeat (first | exact .head _ | with_reducible assumption | apply mC)); (case hv => first | with_reducible assumption | (simp only [kC, kD, kE, kF]; try rfl)); (case hn => first | rfl | simp)) | (refine' xAa hR rfl rfl rfl inferInstance rfl ?hs ?zone ?zvn ?hn ?_; (case hs => repeat (first | exact xAh.head | apply xAh.tail)); (case zone => first | rfl | with_reducible assumption); (case zvn => first | rfl | simp); (case hn => first | rfl | simp); clear hR; intro w hR) | fail)
    go_ret
    exact ⟨rfl, hR.weaken (by repeat (first | exact List.Sublist.refl _ | apply List.Sublist.cons))⟩
end
end Go.Proofs.Ytklidiambinhkaa
namespace Go.Proofs.Ytklidiambinhkaa
open Go.RowKit
theorem rows_three (a1 a2 a3 : Option Addr) (n1 c1 n2 c2 n3 c3 : Nat) (w : World) : (Instr.buildSlice 93 3 #[(0, .slice a1 n1 c1), (1, .slice a2 n2 c2), (2, .slice a3 n3 c3)]).run Try.prog w = .ok (.slice (some ⟨w.heap.size, 0, none⟩) 3 3) (w.alloc (.cells [Value.slice a1 n1 c1, .slice a2 n2 c2, .slice a3 n3 c3].toArray 76)) := by go_simp
attribute [local irreducible] Calls Instr.build Instr.buildSlice
theorem isNew_three {P : Program} {o : Oper} {a : Act} {ty el : TypeId} {x y z : Operand} {v u t : Value} (hg : o.guard = none) (hop : o.op = .buildSlice ty 3 #[(0, x), (1, y), (2, z)]) (hx : ev a x = some v) (hy : ev a y = some u) (hz : ev a z = some t) (hrun : ∀ w, (Instr.buildSlice ty 3 #[(0, v), (1, u), (2, t)]).run P w = .ok (.slice (some ⟨w.heap.size, 0, none⟩) 3 3) (w.alloc (.cells [v, u, t].toArray el))) : IsNew P o a (.cells [v, u, t].toArray el) (fun b => .slice (some ⟨b, 0, none⟩) 3 3) :=
  ⟨hg, fun w => by
    have hx := xBs hx
    have hy := xBs hy
    have hz := xBs hz
    unfold execOp
    simp only [hop, List.map_toArray, List.map_cons, List.map_nil, hx, hy, hz, hrun, Sem.run_bind, Result.andThen_ok, Sem.run_pure]⟩
section
variable {B0 : Nat} {w0 w : World} {L : List (Nat × Obj)}
theorem yields_move {P : Program} {ops : Array Oper} {o : Oper} {a : Act} (hg : o.guard = none) {x : Operand} (hop : o.op = .assign x) {v : Value} (hx' : ev a x = some v) : xBr P ops o v a (Rep B0 w0 L) (Rep B0 w0 L) :=
  .inl ⟨wanted_of hg _, fun w hR => by
    have hx := xBs hx'
    unfold execOp
    subst hx
    rw [hop]
    exact ⟨rfl, hR⟩⟩
abbrev sigCl (b3 b4 b5 : Nat) : Value := .func (.func 46) #[] #[.pointer (some ⟨b3, 0, none⟩), .pointer (some ⟨b4, 0, none⟩), .pointer (some ⟨b5, 0, none⟩)]
set_option maxRecDepth 100000 in
set_option maxHeartbeats 4000000 in
theorem signs_any (p q g h key : Nat) (H : Nat → Nat) (hR : Rep B0 w0 L w) : Calls Try.prog 29 #[grp p q g h, num key, .agg (u8s 32 H).toArray] w fun e w' =>
    ∃ b3 b4 b5, e = .returned (sigCl b3 b4 b5) ∧ Rep B0 w0 ((b5, .cells (u8s 32 H).toArray 28) :: (b4, .cells (nl key).toArray 24) :: (b3, .cells (gl p q g h).toArray 26) :: L) w' := by
  go_enter Try.func29, Try.ntmps29
  go_wp2_with (first | (refine' xAf hR rfl rfl rfl ?_; clear hR; intro blk w hR) | (refine' xAb hR rfl rfl inferInstance ?_; clear hR; intro blk w hR) | (refine' xAc hR rfl rfl rfl inferInstance ?hm ?hn ?_; (case hm => first | with_reducible assumption | repeat (first | exact .head _ | with_reducible assumption | apply mC)); (case hn => first | rfl | simp)) | (refine' xAd hR rfl rfl rfl inferInstance ?hm ?hv ?hn ?_; (case hm => first | with_reducible assumption | repeat (first | exact .head _ | with_reducible assumption | apply mC)); (case hv => first | with_reducible assumption | (simp only [kC, kD, kE, kF]; try rfl)); (case hn => first | rfl | simp)) | (refine' xAa hR rfl rfl rfl inferInstance rfl ?hs ?zone ?zvn ?hn ?_; (case hs => repeat (first | exact xAh.head | apply xAh.tail)); (case zone => first | rfl | with_reducible assumption); (case zvn => first | rfl | simp); (case hn => first | rfl | simp); clear hR; intro w hR) | fail)
  go_ret
  exact ⟨_, _, _, rfl, hR⟩
theorem rows_three_at {rb g1 g2 b5 cap1 cap2 : Nat} {cur1 cur2 : List Value} {ys1 ys2 : List Nat} {H : Nat → Nat} {t : TypeId} (l1 : ys1.length = 32) (l2 : ys2.length = 32) (o1 : OwnOk cap1 cur1 ys1) (o2 : OwnOk cap2 cur2 ys2) (hH : ∀ i, H i < 256)
    (hr : (rb, Obj.cells [Value.slice (some ⟨g1, 0, none⟩) 32 cap1, .slice (some ⟨g2, 0, none⟩) 32 cap2, .slice (some ⟨b5, 0, none⟩) 32 32].toArray 76) ∈ L) (h1 : (g1, Obj.cells cur1.toArray 5) ∈ L) (h2 : (g2, Obj.cells cur2.toArray 5) ∈ L) (h3 : (b5, Obj.cells (u8s 32 H).toArray t) ∈ L) (hR : Rep B0 w0 L w) :
    RowsOf B0 w0 L (.slice (some ⟨rb, 0, none⟩) 3 3) [ys1, ys2, b32 H] := by
  have s1 : xBv B0 w0 L _ ys1 := own_at o1 h1
  have s2 : xBv B0 w0 L _ ys2 := own_at o2 h2
  rw [l1] at s1
  rw [l2] at s2
  have s3 : xBv B0 w0 L (.slice (some ⟨b5, 0, none⟩) 32 32) (b32 H) :=
    ⟨_, 32, by rw [xCm], by rw [xCm]; exact Nat.le_refl _, by unfold maxLen; omega, b32_lt H hH, fun _ => ⟨b5, 0, rfl, fun w' hw j hj => by
      rw [xCm] at hj
      rw [Nat.zero_add, b32_at H hj]
      exact hw.cell h3 (u8s_at hj)⟩⟩
  have big : 32 ≤ reachBytes := by unfold reachBytes; decide
  refine ⟨_, 3, fun j => if j = 0 then .slice (some ⟨g1, 0, none⟩) 32 cap1 else if j = 1 then .slice (some ⟨g2, 0, none⟩) 32 cap2 else .slice (some ⟨b5, 0, none⟩) 32 32, rfl, Nat.le_refl _, by unfold maxLen; decide, fun j hj => ?_, fun _ => ⟨rb, 0, rfl, fun w hw j hj => ?_⟩⟩
  · match j with
    | 0 => exact ⟨s1, by show ys1.length ≤ _; rw [l1]; exact big⟩
    | 1 => exact ⟨s2, by show ys2.length ≤ _; rw [l2]; exact big⟩
    | 2 => exact ⟨s3, by show (b32 H).length ≤ _; rw [xCm]; exact big⟩
    | j + 3 => exact absurd hj (by simp)
  · match j with
    | 0 => exact hw.cell (off := 0) hr rfl
    | 1 => exact hw.cell (off := 1) hr rfl
    | 2 => exact hw.cell (off := 2) hr rfl
    | j + 3 => exact absurd hj (by simp)
theorem plN_length (n : Nat) : (plN n).length = 32 := xDf _
def Made (B0 : Nat) (w0 : World) (L : List (Nat × Obj)) (ys : List Nat) (v : Value) (M : List (Nat × Obj)) : Prop := ∃ g cap cur, v = .slice (some ⟨g, 0, none⟩) 32 cap ∧ OwnOk cap cur ys ∧ M = (g, .cells cur.toArray 5) :: L
theorem put_made (n : Nat) (hR : Rep B0 w0 L w) : Calls Try.prog 48 #[.slice none 0 0, num n] w fun e w' => ∃ v, e = .returned v ∧ outW B0 w0 (Made B0 w0 L (plN n)) v w' :=
  (put_long n hR).mono fun e w' ⟨g, cap, he, cur, ho, hR'⟩ => ⟨_, he, _, ⟨g, cap, cur, by rw [plN_length], ho, rfl⟩, hR'⟩
set_option maxRecDepth 100000 in
set_option maxHeartbeats 8000000 in
theorem sig_closure {p q g h key r b3 b4 b5 c : Nat} {H : Nat → Nat} (hq : q < B) (hc : chalN key r H q = c) (hH : ∀ i, H i < 256) (m3 : (b3, Obj.cells (gl p q g h).toArray 26) ∈ L) (m4 : (b4, Obj.cells (nl key).toArray 24) ∈ L) (m5 : (b5, Obj.cells (u8s 32 H).toArray 28) ∈ L) (hR : Rep B0 w0 L w) :
    Calls Try.prog 46 #[num r, .pointer (some ⟨b3, 0, none⟩), .pointer (some ⟨b4, 0, none⟩), .pointer (some ⟨b5, 0, none⟩)] w fun e w' => e = .returned (num c) ∧ Rep B0 w0 L w' := by
  have tq := gl_q p q g h
  rw [chalN_def] at hc
  have cn := fun (M : List (Nat × Obj)) (rb g1 g2 cap1 cap2 : Nat) (cur1 cur2 : List Value) (o1 : OwnOk cap1 cur1 (plN key)) (o2 : OwnOk cap2 cur2 (plN r)) (hr : (rb, Obj.cells [Value.slice (some ⟨g1, 0, none⟩) 32 cap1, .slice (some ⟨g2, 0, none⟩) 32 cap2, .slice (some ⟨b5, 0, none⟩) 32 32].toArray 76) ∈ M) (h1 : (g1, Obj.cells cur1.toArray 5) ∈ M) (h2 : (g2, Obj.cells cur2.toArray 5) ∈ M) (h3 : (b5, Obj.cells (u8s 32 H).toArray 28) ∈ M) (w : World) (hR : Rep B0 w0 M w) =>
    hash_number q ⟨#[115, 105, 103, 110]⟩ (.slice (some ⟨rb, 0, none⟩) 3 3) [plN key, plN r, b32 H] hq (by decide) (by show 3 < 1000; decide) (fun j hj => by
      match j with
      | 0 => show (plN key).length ≤ _; rw [plN_length]; decide
      | 1 => show (plN r).length ≤ _; rw [plN_length]; decide
      | 2 => show (b32 H).length ≤ _; rw [xCm]; decide
      | j + 3 => exact absurd hj (by simp)) (rows_three_at (plN_length _) (plN_length _) o1 o2 hH hr h1 h2 h3 hR) hR
  rw [hc] at cn
  obtain ⟨er, her⟩ : ∃ e : Int, (if q = 0 then 1 else 0) = e := ⟨_, rfl⟩
  rw [her] at cn
  replace cn := Held.mk cn
  clear her hc
  go_enter Try.func46, Try.ntmps46
  go_wp2_with (first | (refine' xAf hR rfl rfl rfl ?_; clear hR; intro blk w hR) | (refine' xAb hR rfl rfl inferInstance ?_; clear hR; intro blk w hR) | (refine' xAc hR rfl rfl rfl inferInstance ?hm ?hn ?_; (case hm => first | with_reducible assumption | repeat (first | exact .head _ | with_reducible assumption | apply mC)); (case hn => first | rfl | simp)) | (refine' xAd hR rfl rfl rfl inferInstance ?hm ?hv ?hn ?_; (case hm => first | with_reducible assumption | repeat (first | exact .head _ | with_reducible assumption | apply mC)); (case hv => first | with_reducible assumption | (simp only [kC, kD, kE, kF]; try rfl)); (case hn => first | rfl | simp)) | (refine' xAa hR rfl rfl rfl inferInstance rfl ?hs ?zone ?zvn ?hn ?_; (case hs => repeat (first | exact xAh.head | apply xAh.tail)); (case zone => first | rfl | with_reducible assumption); (case zvn => first | rfl | simp); (case hn => first | rfl | simp); clear hR; intro w hR) | fail)
  obtain ⟨b6', hb6⟩ : ∃ x, x = blk := ⟨_, rfl⟩
  subst hb6
  rename_i w1 w2 K0 kz
  obtain ⟨b0, hb0⟩ : ∃ x, x = blk := ⟨_, rfl⟩
  subst hb0
  simp only [kP, kQ, kA, kB]
  refine wp_region_F hR 15 xCu rfl ?_
  clear hR
  refine fHeads [(b3, Obj.cells (gl p q g h).toArray 26), (b4, Obj.cells (nl key).toArray 24), (b5, Obj.cells (u8s 32 H).toArray 28), (b0, Obj.cells (nl r).toArray 24)] [1, 1, 1, 2, 1, 2, 1, 2, 2, 2, 2, 2, 2, 2, 2] 10 rfl (by repeat (first | exact xCd | refine xBu (by repeat (first | exact .head _ | with_reducible assumption | apply mC)) ?_)) (by repeat (first | exact xCd | refine xBu (by repeat (first | exact .head _ | with_reducible assumption | apply mC)) ?_)) rfl (by decide +kernel) (fun K hK => ?_)
  repeat ((first | (refine xBo ?_) | (refine' xAv (by decide) rfl (.inl rfl) rfl ?ha ?_) | (refine' xAv (by decide) rfl (.inr rfl) rfl ?ha ?_) | (refine' xAu rfl rfl rfl inferInstance ?hm ?hn ?ha ?_; (case hm => first | with_reducible assumption | repeat (first | exact .head _ | with_reducible assumption | apply mC)); (case hn => first | rfl | simp)) | (refine' xAp rfl rfl rfl inferInstance ?hm ?hv ?hn ?ha ?_; (case hm => first | with_reducible assumption | repeat (first | exact .head _ | with_reducible assumption | apply mC)); (case hv => first | with_reducible assumption | (simp only [kC, kD, kE, kF]; try rfl)); (case hn => first | rfl | simp)) | (refine' xAl rfl rfl rfl inferInstance ?hm ?hv ?ha ?_; (case hm => first | with_reducible assumption | repeat (first | exact .head _ | with_reducible assumption | apply mC)); (case hv => first | rfl | with_reducible assumption)) | (refine' xAq rfl rfl rfl inferInstance ?hm ?hv ?hn ?ha ?_; (case hm => first | with_reducible assumption | repeat (first | exact .head _ | with_reducible assumption | apply mC)); (case hv => first | with_reducible assumption | (simp only [kC, kD, kE, kF]; try rfl)); (case hn => first | rfl | simp)) | (refine' xAm rfl rfl rfl inferInstance ?hm ?hv ?ha ?_; (case hm => first | with_reducible assumption | repeat (first | exact .head _ | with_reducible assumption | apply mC)); (case hv => first | rfl | with_reducible assumption)) | ((first | refine' xAi (by decide) rfl rfl rfl rfl (fun w => ?hq) ?ha ?_ | refine' xBe (by decide) rfl rfl rfl rfl (fun w => ?hq) ?ha ?_ | refine' xAs (by decide) rfl rfl rfl (fun w => ?hq) ?ha ?_ | refine' xAj (by decide) rfl rfl rfl (fun w => ?hq) ?ha ?_ | refine' xAt (by decide) rfl rfl rfl (fun w => ?hq) ?ha ?_ | refine' xBh (by decide) rfl rfl rfl rfl (fun w => ?hq) ?ha ?_ | refine' xBg (by decide) rfl rfl rfl rfl rfl rfl (fun w => ?hq) ?ha ?_ | refine' xBd (by decide) rfl rfl (fun w => ?hq) ?ha ?_ | refine' xAr (by decide) rfl rfl rfl (fun w => ?hq) ?ha ?_ | refine' xBf (by decide) rfl rfl rfl (fun w => ?hq) ?ha ?_); (case hq => go_simp; try rfl)) | (refine' xAk (by decide) rfl rfl rfl ?ha ?_) | (refine' xBp (by decide) rfl rfl rfl rfl ?ha ?_) | (refine' xBn (by decide) rfl ?ha ?_) | fail); try (case ha => simp only [kP, kQ, kA, kB]; try rfl))
  refine xBt (hK _ _ ?_)
  clear hK K
  repeat' (first
    | exact f_nil
    | (refine f_is 3 ?_; refine f_call _ rfl rfl rfl rfl rfl (xBm Try.func48 (by kernel_rfl) (by kernel_rfl) _) (fun w hw => put_made key hw) (fun v M hM => ?_) ?_; (obtain ⟨g1, cap1, cur1, rfl, o1, rfl⟩ := hM; replace o1 := Held.mk o1; refine ⟨(by repeat (first | exact xCd | refine xBu (by repeat (first | exact .head _ | with_reducible assumption | apply mC)) ?_)), ?_⟩; try simp only [Act.put, kA, kB, List.setIfInBounds_toArray]))
    | (refine f_is 5 ?_; refine f_call _ rfl rfl rfl rfl rfl (xBm Try.func48 (by kernel_rfl) (by kernel_rfl) _) (fun w hw => put_made r hw) (fun v M hM => ?_) ?_; (obtain ⟨g2, cap2, cur2, rfl, o2, rfl⟩ := hM; replace o2 := Held.mk o2; refine ⟨(by repeat (first | exact xCd | refine xBu (by repeat (first | exact .head _ | with_reducible assumption | apply mC)) ?_)), ?_⟩; try simp only [Act.put, kA, kB, List.setIfInBounds_toArray]))
    | (refine f_is 12 ?_; refine f_new rfl rfl (isNew_allocR rfl rfl) (by repeat (first | exact xCd | refine xBu (by repeat (first | exact .head _ | with_reducible assumption | apply mC)) ?_)) (fun b6 => ?_) ?_; try simp only [Act.put, kA, kB, List.setIfInBounds_toArray])
    | (refine f_is 7 ?_; refine f_new rfl rfl (isNew_three rfl rfl rfl rfl rfl (rows_three _ _ _ _ _ _ _ _ _)) (by repeat (first | exact xCd | refine xBu (by repeat (first | exact .head _ | with_reducible assumption | apply mC)) ?_)) (fun rb => ?_) ?_; try simp only [Act.put, kA, kB, List.setIfInBounds_toArray])
    | (refine f_is 8 ?_; refine f_y rfl rfl (yields_call rfl rfl rfl (xBm Try.func47 (by kernel_rfl) (by kernel_rfl) _) (fun w hw => cn.out _ _ _ _ _ _ _ _ o1.out o2.out (by repeat (first | exact .head _ | with_reducible assumption | apply mC)) (by repeat (first | exact .head _ | with_reducible assumption | apply mC)) (by repeat (first | exact .head _ | with_reducible assumption | apply mC)) (by repeat (first | exact .head _ | with_reducible assumption | apply mC)) w hw)) (by repeat (first | exact xCd | refine xBu (by repeat (first | exact .head _ | with_reducible assumption | apply mC)) ?_)) ?_ ?_; try simp only [Act.put, kA, kB, List.setIfInBounds_toArray])
    | (refine f_is 13 ?_; refine f_s rfl rfl (yields_storeAll rfl rfl rfl inferInstance rfl rfl rfl rfl (by repeat (first | exact xAh.head | apply xAh.tail))) (by repeat (first | exact xCd | refine xBu (by repeat (first | exact .head _ | with_reducible assumption | apply mC)) ?_)) ?_ ?_; try simp only [Act.put, kA, kB, List.setIfInBounds_toArray])
    | (refine f_is 14 ?_; refine f_y rfl rfl (yields_move rfl rfl rfl) (by repeat (first | exact xCd | refine xBu (by repeat (first | exact .head _ | with_reducible assumption | apply mC)) ?_)) ?_ ?_; try simp only [Act.put, kA, kB, List.setIfInBounds_toArray])
    | refine f_at [3, 12] (by decide +kernel) rfl ?_
    | refine f_at [5, 12] (by decide +kernel) rfl ?_
    | refine f_at [7, 12] (by decide +kernel) rfl ?_
    | refine f_at [8, 12] (by decide +kernel) rfl ?_
    | refine f_at [3] (by decide +kernel) rfl ?_
    | refine f_at [5] (by decide +kernel) rfl ?_
    | refine f_at [7] (by decide +kernel) rfl ?_
    | refine f_at [8] (by decide +kernel) rfl ?_
    | refine f_at [12] (by decide +kernel) rfl ?_
    | refine f_at [13] (by decide +kernel) rfl ?_
    | refine f_at [14] (by decide +kernel) rfl ?_
    | refine f_at [13, 14] (by decide +kernel) rfl ?_
    | refine f_at [12, 14] (by decide +kernel) rfl ?_
    | (refine fHeads [(b3, Obj.cells (gl p q g h).toArray 26), (b4, Obj.cells (nl key).toArray 24), (b5, Obj.cells (u8s 32 H).toArray 28), (b0, Obj.cells (nl r).toArray 24)] [2, 2, 2, 2, 2, 2, 2, 2, 2, 1, 1, 1, 2, 2, 2] 3 rfl (by repeat (first | exact xCd | refine xBu (by repeat (first | exact .head _ | with_reducible assumption | apply mC)) ?_)) (by repeat (first | exact xCd | refine xBu (by repeat (first | exact .head _ | with_reducible assumption | apply mC)) ?_)) rfl (by decide +kernel) (fun K hK => ?_); (repeat ((first | (refine xBo ?_) | (refine' xAv (by decide) rfl (.inl rfl) rfl ?ha ?_) | (refine' xAv (by decide) rfl (.inr rfl) rfl ?ha ?_) | (refine' xAu rfl rfl rfl inferInstance ?hm ?hn ?ha ?_; (case hm => first | with_reducible assumption | repeat (first | exact .head _ | with_reducible assumption | apply mC)); (case hn => first | rfl | simp)) | (refine' xAp rfl rfl rfl inferInstance ?hm ?hv ?hn ?ha ?_; (case hm => first | with_reducible assumption | repeat (first | exact .head _ | with_reducible assumption | apply mC)); (case hv => first | with_reducible assumption | (simp only [kC, kD, kE, kF]; try rfl)); (case hn => first | rfl | simp)) | (refine' xAl rfl rfl rfl inferInstance ?hm ?hv ?ha ?_; (case hm => first | with_reducible assumption | repeat (first | exact .head _ | with_reducible assumption | apply mC)); (case hv => first | rfl | with_reducible assumption)) | (refine' xAq rfl rfl rfl inferInstance ?hm ?hv ?hn ?ha ?_; (case hm => first | with_reducible assumption | repeat (first | exact .head _ | with_reducible assumption | apply mC)); (case hv => first | with_reducible assumption | (simp only [kC, kD, kE, kF]; try rfl)); (case hn => first | rfl | simp)) | (refine' xAm rfl rfl rfl inferInstance ?hm ?hv ?ha ?_; (case hm => first | with_reducible assumption | repeat (first | exact .head _ | with_reducible assumption | apply mC)); (case hv => first | rfl | with_reducible assumption)) | ((first | refine' xAi (by decide) rfl rfl rfl rfl (fun w => ?hq) ?ha ?_ | refine' xBe (by decide) rfl rfl rfl rfl (fun w => ?hq) ?ha ?_ | refine' xAs (by decide) rfl rfl rfl (fun w => ?hq) ?ha ?_ | refine' xAj (by decide) rfl rfl rfl (fun w => ?hq) ?ha ?_ | refine' xAt (by decide) rfl rfl rfl (fun w => ?hq) ?ha ?_ | refine' xBh (by decide) rfl rfl rfl rfl (fun w => ?hq) ?ha ?_ | refine' xBg (by decide) rfl rfl rfl rfl rfl rfl (fun w => ?hq) ?ha ?_ | refine' xBd (by decide) rfl rfl (fun w => ?hq) ?ha ?_ | refine' xAr (by decide) rfl rfl rfl (fun w => ?hq) ?ha ?_ | refine' xBf (by decide) rfl rfl rfl (fun w => ?hq) ?ha ?_); (case hq => go_simp; try rfl)) | (refine' xAk (by decide) rfl rfl rfl ?ha ?_) | (refine' xBp (by decide) rfl rfl rfl rfl ?ha ?_) | (refine' xBn (by decide) rfl ?ha ?_) | fail); try (case ha => simp only [kP, kQ, kA, kB]; try rfl))); refine xBt (hK _ _ ?_); clear hK K)
    | (refine fHeads [(b3, Obj.cells (gl p q g h).toArray 26), (b4, Obj.cells (nl key).toArray 24), (b5, Obj.cells (u8s 32 H).toArray 28), (b0, Obj.cells (nl r).toArray 24)] [2, 2, 2, 2, 2, 2, 2, 2, 2, 1, 1, 1, 2, 2, 2] 2 rfl (by repeat (first | exact xCd | refine xBu (by repeat (first | exact .head _ | with_reducible assumption | apply mC)) ?_)) (by repeat (first | exact xCd | refine xBu (by repeat (first | exact .head _ | with_reducible assumption | apply mC)) ?_)) rfl (by decide +kernel) (fun K hK => ?_); (repeat ((first | (refine xBo ?_) | (refine' xAv (by decide) rfl (.inl rfl) rfl ?ha ?_) | (refine' xAv (by decide) rfl (.inr rfl) rfl ?ha ?_) | (refine' xAu rfl rfl rfl inferInstance ?hm ?hn ?ha ?_; (case hm => first | with_reducible assumption | repeat (first | exact .head _ | with_reducible assumption | apply mC)); (case hn => first | rfl | simp)) | (refine' xAp rfl rfl rfl inferInstance ?hm ?hv ?hn ?ha ?_; (case hm => first | with_reducible assumption | repeat (first | exact .head _ | with_reducible assumption | apply mC)); (case hv => first | with_reducible assumption | (simp only [kC, kD, kE, kF]; try rfl)); (case hn => first | rfl | simp)) | (refine' xAl rfl rfl rfl inferInstance ?hm ?hv ?ha ?_; (case hm => first | with_reducible assumption | repeat (first | exact .head _ | with_reducible assumption | apply mC)); (case hv => first | rfl | with_reducible assumption)) | (refine' xAq rfl rfl rfl inferInstance ?hm ?hv ?hn ?ha ?_; (case hm => first | with_reducible assumption | repeat (first | exact .head _ | with_reducible assumption | apply mC)); (case hv => first | with_reducible assumption | (simp only [kC, kD, kE, kF]; try rfl)); (case hn => first | rfl | simp)) | (refine' xAm rfl rfl rfl inferInstance ?hm ?hv ?ha ?_; (case hm => first | with_reducible assumption | repeat (first | exact .head _ | with_reducible assumption | apply mC)); (case hv => first | rfl | with_reducible assumption)) | ((first | refine' xAi (by decide) rfl rfl rfl rfl (fun w => ?hq) ?ha ?_ | refine' xBe (by decide) rfl rfl rfl rfl (fun w => ?hq) ?ha ?_ | refine' xAs (by decide) rfl rfl rfl (fun w => ?hq) ?ha ?_ | refine' xAj (by decide) rfl rfl rfl (fun w => ?hq) ?ha ?_ | refine' xAt (by decide) rfl rfl rfl (fun w => ?hq) ?ha ?_ | refine' xBh (by decide) rfl rfl rfl rfl (fun w => ?hq) ?ha ?_ | refine' xBg (by decide) rfl rfl rfl rfl rfl rfl (fun w => ?hq) ?ha ?_ | refine' xBd (by decide) rfl rfl (fun w => ?hq) ?ha ?_ | refine' xAr (by decide) rfl rfl rfl (fun w => ?hq) ?ha ?_ | refine' xBf (by decide) rfl rfl rfl (fun w => ?hq) ?ha ?_); (case hq => go_simp; try rfl)) | (refine' xAk (by decide) rfl rfl rfl ?ha ?_) | (refine' xBp (by decide) rfl rfl rfl rfl ?ha ?_) | (refine' xBn (by decide) rfl ?ha ?_) | fail); try (case ha => simp only [kP, kQ, kA, kB]; try rfl))); refine xBt (hK _ _ ?_); clear hK K))
  all_goals refine f_end (by decide +kernel) (fun w hR => ?_)
  all_goals simp only [Exit.then]
  all_goals refine kz _ _ ?_
  all_goals clear kz
  all_goals go_wp2_with (first | (refine' xAf hR rfl rfl rfl ?_; clear hR; intro blk w hR) | (refine' xAb hR rfl rfl inferInstance ?_; clear hR; intro blk w hR) | (refine' xAc hR rfl rfl rfl inferInstance ?hm ?hn ?_; (case hm => first | with_reducible assumption | repeat (first | exact .head _ | with_reducible assumption | apply mC)); (case hn => first | rfl | simp)) | (refine' xAd hR rfl rfl rfl inferInstance ?hm ?hv ?hn ?_; (case hm => first | with_reducible assumption | repeat (first | exact .head _ | with_reducible assumption | apply mC)); (case hv => first | with_reducible assumption | (simp only [kC, kD, kE, kF]; try rfl)); (case hn => first | rfl | simp)) | (refine' xAa hR rfl rfl rfl inferInstance rfl ?hs ?zone ?zvn ?hn ?_; (case hs => repeat (first | exact xAh.head | apply xAh.tail)); (case zone => first | rfl | with_reducible assumption); (case zvn => first | rfl | simp); (case hn => first | rfl | simp); clear hR; intro w hR) | fail)
  all_goals (refine' bodyPost_ret (xBx Try.results46 rfl (hR.loadAll (P := Try.prog) (ty := 24) ?hm ?hn)) rfl ⟨rfl, hR.weaken (by repeat (first | exact List.Sublist.refl _ | apply List.Sublist.cons))⟩; (case hm => repeat (first | exact .head _ | apply mC)); (case hn => rfl))
end
end Go.Proofs.Ytklidiambinhkaa
namespace Go.Proofs.Ytklidiambinhkaa
open Go.RowKit
noncomputable abbrev sigV (c s : Nat) : Value := .agg (nl2 c s).toArray
instance rowSig : RowT Try.prog 30 8 := .mk' (by kernel_rfl) (by kernel_rfl)
instance zeroSig : ZeroT Try.prog 30 [.int .u64 0, .int .u64 0, .int .u64 0, .int .u64 0, .int .u64 0, .int .u64 0, .int .u64 0, .int .u64 0] := ⟨.agg #[.int .u64 0, .int .u64 0, .int .u64 0, .int .u64 0, .int .u64 0, .int .u64 0, .int .u64 0, .int .u64 0], by kernel_rfl, rfl⟩
theorem build_sig (c s : Nat) (w : World) : (Instr.build 30 #[(0, .agg (nl c).toArray), (1, .agg (nl s).toArray)]).run Try.prog w = .ok (sigV c s) w := by
  unfold sigV nl nl2
  kernel_rfl
theorem nl2_zero : [Value.int .u64 0, .int .u64 0, .int .u64 0, .int .u64 0, .int .u64 0, .int .u64 0, .int .u64 0, .int .u64 0] = nl2 0 0 := by unfold nl2; simp [wd_def]
theorem build_sig0 (w : World) : (Instr.build 30 #[]).run Try.prog w = .ok (sigV 0 0) w := by
  unfold sigV
  rw [← nl2_zero]
  kernel_rfl
theorem xCf {P : Program} {ops : Array Oper} {rest : List Oper} {o : Oper} {a : Act} {w w0 : World} {Q : Exit → Act → World → Prop} {B0 : Nat} {L : List (Nat × Obj)} (hR : Rep B0 w0 L w) (hw : Region.wanted o (yielded ops a.tmps) = true) {ty el : TypeId} {x y : Operand} (hop : o.op = .buildSlice ty 2 #[(0, x), (1, y)]) {v u : Value} {l : List Value} (hx : ev a x = some v) (hy : ev a y = some u)
    (hrun : ∀ w, (Instr.buildSlice ty 2 #[(0, v), (1, u)]).run P w = .ok (.slice (some ⟨w.heap.size, 0, none⟩) 2 2) (w.alloc (.cells l.toArray el)))
    (h : ∀ b w', Rep B0 w0 ((b, .cells l.toArray el) :: L) w' → wpList P ops Q rest (a.put o.dst (.slice (some ⟨b, 0, none⟩) 2 2)) w') : wpList P ops Q (o :: rest) a w :=
  wpList_wanted hw fun _ hK => by
    have hx := xBs hx
    have hy := xBs hy
    unfold Oper.wp execOp
    simp only [hop, List.map_toArray, List.map_cons, List.map_nil, hx, hy, hrun, Sem.run_bind, Result.andThen_ok, Sem.run_pure]
    exact hK _ _ (h _ _ (hR.alloc _))
attribute [local irreducible] Calls Instr.build Instr.buildSlice
def signOk (p q g s d : Nat) : Prop := mayG p g ∧ s ≠ 0 ∧ d ≠ 0 ∧ okX q s d
section
variable {p q g h s d : Nat} {H : Nat → Nat}
set_option maxRecDepth 100000 in
set_option maxHeartbeats 8000000 in
theorem sign_no (hp : p < B) (hq : q < B) (hg : g < B) (hs : s < B) (hd : d < B) (hno : ¬ signOk p q g s d) (w : World) : Calls Try.prog 12 #[grp p q g h, num s, .agg (u8s 32 H).toArray, num d] w fun e' w' =>
    e' = .returned (.tuple #[sigV 0 0, .int .i64 1]) ∧ Below w.heap.size w w' := by
  have tg := gl_g p q g h
  have bs := fun w => build_sig0 w
  obtain ⟨ke, hke⟩ : ∃ e, (if mayG p g then (0 : Int) else 1) = e := ⟨_, rfl⟩
  have x1 := gexp_lit (q := q) (g := g) (h := h) (p := p) hp hg hs rfl hke
  generalize (if mayG p g then powN g s p else 0) = key at *
  obtain ⟨b, hb⟩ : ∃ b, decide (okX q s d) = b := ⟨_, rfl⟩
  have cx := fun (b0 : Nat) (L : List (Nat × Obj)) (w' : World) (hm : (b0, Obj.cells (nl2 s d).toArray 24) ∈ L) (hR : Rep w.heap.size w L w') => exps_lit (p := p) (g := g) (h := h) hq hs hd hb hm hR
  have hc : ke = 1 ∨ (ke = 0 ∧ eqN s 0 = true) ∨ (ke = 0 ∧ eqN s 0 = false ∧ eqN d 0 = true) ∨ (ke = 0 ∧ eqN s 0 = false ∧ eqN d 0 = false ∧ b = false) := by
    by_cases h1 : mayG p g
    · rw [if_pos h1] at hke
      by_cases h2 : s = 0
      · exact .inr (.inl ⟨hke.symm, eqN_yes h2⟩)
      · by_cases h3 : d = 0
        · exact .inr (.inr (.inl ⟨hke.symm, xCy hs B_pos h2, eqN_yes h3⟩))
        · exact .inr (.inr (.inr ⟨hke.symm, xCy hs B_pos h2, xCy hd B_pos h3, by rw [← hb]; exact decide_eq_false fun h4 => hno ⟨h1, h2, h3, h4⟩⟩))
    · rw [if_neg h1] at hke
      exact .inl hke.symm
  clear hno hke hb
  have hR := Rep.init w
  rcases hc with rfl | ⟨rfl, j1⟩ | ⟨rfl, j1, j2⟩ | ⟨rfl, j1, j2, rfl⟩
  · go_enter Try.func12, Try.ntmps12
    go_wp2_with (first | go_skip | (refine' xAf hR rfl rfl rfl ?_; clear hR; intro blk w hR) | (refine' xAb hR rfl rfl inferInstance ?_; clear hR; intro blk w hR) | (refine' xAc hR rfl rfl rfl inferInstance ?hm ?hn ?_; (case hm => first | with_reducible assumption | repeat (first | exact .head _ | with_reducible assumption | apply mC)); (case hn => first | rfl | simp)) | (refine' xAd hR rfl rfl rfl inferInstance ?hm ?hv ?hn ?_; (case hm => first | with_reducible assumption | repeat (first | exact .head _ | with_reducible assumption | apply mC)); (case hv => first | with_reducible assumption | (simp only [kC, kD, kE, kF]; try rfl)); (case hn => first | rfl | simp)) | (refine' xAa hR rfl rfl rfl inferInstance rfl ?hs ?zone ?zvn ?hn ?_; (case hs => repeat (first | exact xAh.head | apply xAh.tail)); (case zone => first | rfl | with_reducible assumption); (case zvn => first | rfl | simp); (case hn => first | rfl | simp); clear hR; intro w hR) | (refine' xAy hR rfl rfl rfl inferInstance ?hm ?hn ?_; (case hm => first | with_reducible assumption | repeat (first | exact .head _ | with_reducible assumption | apply mC)); (case hn => first | rfl | simp)) | (refine' xBb hR rfl rfl rfl inferInstance ?hm ?hv ?hn ?_; (case hm => first | with_reducible assumption | repeat (first | exact .head _ | with_reducible assumption | apply mC)); (case hv => first | with_reducible assumption | (simp only [kC, kD, kE, kF]; try rfl)); (case hn => first | rfl | simp)) | (go_at_call 18; refine (x1 _).mono ?_; rintro e w ⟨rfl, hb⟩; replace hR := hR.call hb; clear hb))
    (refine' bodyPost_ret (xBj Try.results12 rfl (hR.loadAll (P := Try.prog) (ty := 30) ?hm ?hn)) rfl ⟨?_, hR.below⟩; (case hm => first | with_reducible assumption | repeat (first | exact .head _ | with_reducible assumption | apply mC)); (case hn => first | rfl | simp))
    unfold sigV
    rw [← nl2_zero]
    rfl
  · go_enter Try.func12, Try.ntmps12
    go_wp2_with (first | go_skip | (refine' xAf hR rfl rfl rfl ?_; clear hR; intro blk w hR) | (refine' xAb hR rfl rfl inferInstance ?_; clear hR; intro blk w hR) | (refine' xAc hR rfl rfl rfl inferInstance ?hm ?hn ?_; (case hm => first | with_reducible assumption | repeat (first | exact .head _ | with_reducible assumption | apply mC)); (case hn => first | rfl | simp)) | (refine' xAd hR rfl rfl rfl inferInstance ?hm ?hv ?hn ?_; (case hm => first | with_reducible assumption | repeat (first | exact .head _ | with_reducible assumption | apply mC)); (case hv => first | with_reducible assumption | (simp only [kC, kD, kE, kF]; try rfl)); (case hn => first | rfl | simp)) | (refine' xAa hR rfl rfl rfl inferInstance rfl ?hs ?zone ?zvn ?hn ?_; (case hs => repeat (first | exact xAh.head | apply xAh.tail)); (case zone => first | rfl | with_reducible assumption); (case zvn => first | rfl | simp); (case hn => first | rfl | simp); clear hR; intro w hR) | (refine' xAy hR rfl rfl rfl inferInstance ?hm ?hn ?_; (case hm => first | with_reducible assumption | repeat (first | exact .head _ | with_reducible assumption | apply mC)); (case hn => first | rfl | simp)) | (refine' xBb hR rfl rfl rfl inferInstance ?hm ?hv ?hn ?_; (case hm => first | with_reducible assumption | repeat (first | exact .head _ | with_reducible assumption | apply mC)); (case hv => first | with_reducible assumption | (simp only [kC, kD, kE, kF]; try rfl)); (case hn => first | rfl | simp)) | (go_at_call 18; refine (x1 _).mono ?_; rintro e w ⟨rfl, hb⟩; replace hR := hR.call hb; clear hb))
    (refine' bodyPost_ret (xBj Try.results12 rfl (hR.loadAll (P := Try.prog) (ty := 30) ?hm ?hn)) rfl ⟨?_, hR.below⟩; (case hm => first | with_reducible assumption | repeat (first | exact .head _ | with_reducible assumption | apply mC)); (case hn => first | rfl | simp))
    unfold sigV
    rw [← nl2_zero]
    rfl
  · go_enter Try.func12, Try.ntmps12
    go_wp2_with (first | go_skip | (refine' xAf hR rfl rfl rfl ?_; clear hR; intro blk w hR) | (refine' xAb hR rfl rfl inferInstance ?_; clear hR; intro blk w hR) | (refine' xAc hR rfl rfl rfl inferInstance ?hm ?hn ?_; (case hm => first | with_reducible assumption | repeat (first | exact .head _ | with_reducible assumption | apply mC)); (case hn => first | rfl | simp)) | (refine' xAd hR rfl rfl rfl inferInstance ?hm ?hv ?hn ?_; (case hm => first | with_reducible assumption | repeat (first | exact .head _ | with_reducible assumption | apply mC)); (case hv => first | with_reducible assumption | (simp only [kC, kD, kE, kF]; try rfl)); (case hn => first | rfl | simp)) | (refine' xAa hR rfl rfl rfl inferInstance rfl ?hs ?zone ?zvn ?hn ?_; (case hs => repeat (first | exact xAh.head | apply xAh.tail)); (case zone => first | rfl | with_reducible assumption); (case zvn => first | rfl | simp); (case hn => first | rfl | simp); clear hR; intro w hR) | (refine' xAy hR rfl rfl rfl inferInstance ?hm ?hn ?_; (case hm => first | with_reducible assumption | repeat (first | exact .head _ | with_reducible assumption | apply mC)); (case hn => first | rfl | simp)) | (refine' xBb hR rfl rfl rfl inferInstance ?hm ?hv ?hn ?_; (case hm => first | with_reducible assumption | repeat (first | exact .head _ | with_reducible assumption | apply mC)); (case hv => first | with_reducible assumption | (simp only [kC, kD, kE, kF]; try rfl)); (case hn => first | rfl | simp)) | (go_at_call 18; refine (x1 _).mono ?_; rintro e w ⟨rfl, hb⟩; replace hR := hR.call hb; clear hb))
    (refine' bodyPost_ret (xBj Try.results12 rfl (hR.loadAll (P := Try.prog) (ty := 30) ?hm ?hn)) rfl ⟨?_, hR.below⟩; (case hm => first | with_reducible assumption | repeat (first | exact .head _ | with_reducible assumption | apply mC)); (case hn => first | rfl | simp))
    unfold sigV
    rw [← nl2_zero]
    rfl
  · go_enter Try.func12, Try.ntmps12
    go_wp2_with (first | go_skip | (refine' xAf hR rfl rfl rfl ?_; clear hR; intro blk w hR) | (refine' xAb hR rfl rfl inferInstance ?_; clear hR; intro blk w hR) | (refine' xAc hR rfl rfl rfl inferInstance ?hm ?hn ?_; (case hm => first | with_reducible assumption | repeat (first | exact .head _ | with_reducible assumption | apply mC)); (case hn => first | rfl | simp)) | (refine' xAd hR rfl rfl rfl inferInstance ?hm ?hv ?hn ?_; (case hm => first | with_reducible assumption | repeat (first | exact .head _ | with_reducible assumption | apply mC)); (case hv => first | with_reducible assumption | (simp only [kC, kD, kE, kF]; try rfl)); (case hn => first | rfl | simp)) | (refine' xAa hR rfl rfl rfl inferInstance rfl ?hs ?zone ?zvn ?hn ?_; (case hs => repeat (first | exact xAh.head | apply xAh.tail)); (case zone => first | rfl | with_reducible assumption); (case zvn => first | rfl | simp); (case hn => first | rfl | simp); clear hR; intro w hR) | (refine' xAy hR rfl rfl rfl inferInstance ?hm ?hn ?_; (case hm => first | with_reducible assumption | repeat (first | exact .head _ | with_reducible assumption | apply mC)); (case hn => first | rfl | simp)) | (refine' xBb hR rfl rfl rfl inferInstance ?hm ?hv ?hn ?_; (case hm => first | with_reducible assumption | repeat (first | exact .head _ | with_reducible assumption | apply mC)); (case hv => first | with_reducible assumption | (simp only [kC, kD, kE, kF]; try rfl)); (case hn => first | rfl | simp)) | (go_at_call 18; refine (x1 _).mono ?_; rintro e w ⟨rfl, hb⟩; replace hR := hR.call hb; clear hb) | (refine' xCf hR rfl rfl rfl rfl (xCg _ _) ?_; clear hR; intro bt w hR) | (go_at_call 28; refine (cx _ _ _ (.head _) hR).mono ?_; clear hR; rintro e w ⟨rfl, hR⟩))
    (refine' bodyPost_ret (xBj Try.results12 rfl (hR.loadAll (P := Try.prog) (ty := 30) ?hm ?hn)) rfl ⟨?_, hR.below⟩; (case hm => first | with_reducible assumption | repeat (first | exact .head _ | with_reducible assumption | apply mC)); (case hn => first | rfl | simp))
    unfold sigV
    rw [← nl2_zero]
    rfl
end
end Go.Proofs.Ytklidiambinhkaa
namespace Go.Proofs.Ytklidiambinhkaa
open Go.RowKit
attribute [local irreducible] Calls Instr.build Instr.buildSlice
section
variable {P : Program} {ops : Array Oper} {B0 : Nat} {w0 w : World} {L L' : List (Nat × Obj)}
theorem yields_callV {o : Oper} {a : Act} (hg : o.guard = none) {f : FuncId} {x : Operand} {xs : List Operand} {us : Array TypeId} (hop : o.op = .call { callee := .value x, args := xs.toArray, argTypes := us }) {caps : List Value} (hf : ev a x = some (.func (.func f) #[] caps.toArray)) {vs : List Value} {v : Value} (hx' : evL a xs = some vs)
    (hent : ∀ w, (callFunc f (vs ++ caps).toArray).run P w = .ok (.enter f (vs ++ caps).toArray) w) (hq : ∀ w, Rep B0 w0 L w → Calls P f (vs ++ caps).toArray w fun e w' => e = .returned v ∧ Rep B0 w0 L' w') : xBr P ops o v a (Rep B0 w0 L) (Rep B0 w0 L') :=
  .inl ⟨wanted_of hg _, fun w hR => by
    have e : (execOp a.eval o).run P w = .ok (.enter f (vs ++ caps).toArray) w := by
      have hx := xCo hx'
      have hf := xBs hf
      unfold execOp
      simp only [hop, resolve, Deferred.ofValue, hf, Sem.run_bind, Sem.run_pure, Result.andThen_ok, hx]
      have := hent w
      simpa [invoke] using this
    rw [e]
    exact (hq w hR).mono fun e' w' ⟨he, hb⟩ => ⟨he, hb⟩⟩
def Signs (p q g h key : Nat) (H : Nat → Nat) (L : List (Nat × Obj)) (v : Value) (M : List (Nat × Obj)) : Prop := ∃ b3 b4 b5, v = sigCl b3 b4 b5 ∧ M = (b5, .cells (u8s 32 H).toArray 28) :: (b4, .cells (nl key).toArray 24) :: (b3, .cells (gl p q g h).toArray 26) :: L
theorem signs_made {p q g h key : Nat} {H : Nat → Nat} (hR : Rep B0 w0 L w) : Calls Try.prog 29 #[grp p q g h, num key, .agg (u8s 32 H).toArray] w fun e w' => ∃ v, e = .returned v ∧ outW B0 w0 (Signs p q g h key H L) v w' :=
  (signs_any p q g h key H hR).mono fun e w' ⟨b3, b4, b5, he, hR'⟩ => ⟨_, he, _, ⟨b3, b4, b5, rfl, rfl⟩, hR'⟩
end
section
variable {p q g h s d : Nat} {H : Nat → Nat}
noncomputable def sigC (p q g s d : Nat) (H : Nat → Nat) : Nat := chalN (powN g s p) (powN g d p) H q
noncomputable def sigS (p q g s d : Nat) (H : Nat → Nat) : Nat := (d + mulN s (sigC p q g s d H) q) % q
set_option maxRecDepth 100000 in
set_option maxHeartbeats 8000000 in
theorem sign_yes (hp : p < B) (hq : q < B) (hg : g < B) (hs : s < B) (hd : d < B) (hH : ∀ i, H i < 256) (hok : signOk p q g s d) (w : World) : Calls Try.prog 12 #[grp p q g h, num s, .agg (u8s 32 H).toArray, num d] w fun e' w' =>
    e' = .returned (.tuple #[sigV (sigC p q g s d H) (sigS p q g s d H), .int .i64 0]) ∧ Below w.heap.size w w' := by
  obtain ⟨h1, h2, h3, h4⟩ := hok
  have tg := gl_g p q g h
  have j1 := xCy hs B_pos h2
  have j2 := xCy hd B_pos h3
  have x1 := gexp_lit (q := q) (g := g) (h := h) (p := p) (e := 0) hp hg hs rfl (if_pos h1)
  have x2 := gexp_lit (q := q) (g := g) (h := h) (p := p) (e := 0) hp hg hd rfl (if_pos h1)
  rw [if_pos h1] at x1 x2
  have cx := fun (b0 : Nat) (L : List (Nat × Obj)) (w' : World) (hm : (b0, Obj.cells (nl2 s d).toArray 24) ∈ L) (hR : Rep w.heap.size w L w') => exps_lit (p := p) (g := g) (h := h) (s := true) hq hs hd (decide_eq_true h4) hm hR
  unfold sigS sigC
  obtain ⟨key, hkey⟩ : ∃ k, powN g s p = k := ⟨_, rfl⟩
  obtain ⟨r, hr⟩ : ∃ k, powN g d p = k := ⟨_, rfl⟩
  rw [hkey] at x1 ⊢
  rw [hr] at x2 ⊢
  obtain ⟨c, hc⟩ : ∃ c, chalN key r H q = c := ⟨_, rfl⟩
  have lc : c < q := by rw [← hc]; exact chalN_lt (by have := h4.1; omega) _ _ _
  rw [hc]
  obtain ⟨m, hm⟩ : ∃ m, mulN s c q = m := ⟨_, rfl⟩
  have lm : m < q := by rw [← hm, xCq]; exact Nat.mod_lt _ (by have := h4.1; omega)
  obtain ⟨S, hS⟩ : ∃ S, (d + m) % q = S := ⟨_, rfl⟩
  rw [hm, hS]
  have cm := smul_lit (p := p) (g := g) (h := h) (e := 0) (r := m) hs (by omega : c < B) hq (by rw [if_pos ⟨h4.1, h4.2.1, lc⟩, hm]) (if_pos ⟨h4.1, h4.2.1, lc⟩)
  have ca := sadd_lit (p := p) (g := g) (h := h) (e := 0) (r := S) hd (by omega : m < B) hq (by rw [if_pos ⟨h4.1, h4.2.2, lm⟩, hS]) (if_pos ⟨h4.1, h4.2.2, lm⟩)
  have bs := fun w => build_sig c S w
  have cl := fun (b3 b4 b5 : Nat) (M : List (Nat × Obj)) (m3 : (b3, Obj.cells (gl p q g h).toArray 26) ∈ M) (m4 : (b4, Obj.cells (nl key).toArray 24) ∈ M) (m5 : (b5, Obj.cells (u8s 32 H).toArray 28) ∈ M) (w' : World) (hR : Rep w.heap.size w M w') => sig_closure (r := r) hq hc hH m3 m4 m5 hR
  clear h1 h2 h3 h4 hkey hr lc hm lm hS
  replace hH := Held.mk hH
  have hone := u8s_one 32 H
  have hR := Rep.init w
  obtain ⟨W, hW⟩ : ∃ x, x = w := ⟨_, rfl⟩
  subst hW
  go_enter Try.func12, Try.ntmps12
  go_wp2_with (first | go_skip | (refine' xAf hR rfl rfl rfl ?_; clear hR; intro blk w hR) | (refine' xAb hR rfl rfl inferInstance ?_; clear hR; intro blk w hR) | (refine' xAc hR rfl rfl rfl inferInstance ?hm ?hn ?_; (case hm => first | with_reducible assumption | repeat (first | exact .head _ | with_reducible assumption | apply mC)); (case hn => first | rfl | simp)) | (refine' xAd hR rfl rfl rfl inferInstance ?hm ?hv ?hn ?_; (case hm => first | with_reducible assumption | repeat (first | exact .head _ | with_reducible assumption | apply mC)); (case hv => first | with_reducible assumption | (simp only [kC, kD, kE, kF]; try rfl)); (case hn => first | rfl | simp)) | (refine' xAa hR rfl rfl rfl inferInstance rfl ?hs ?zone ?zvn ?hn ?_; (case hs => repeat (first | exact xAh.head | apply xAh.tail)); (case zone => first | rfl | with_reducible assumption); (case zvn => first | rfl | simp); (case hn => first | rfl | simp); clear hR; intro w hR) | (refine' xAy hR rfl rfl rfl inferInstance ?hm ?hn ?_; (case hm => first | with_reducible assumption | repeat (first | exact .head _ | with_reducible assumption | apply mC)); (case hn => first | rfl | simp)) | (refine' xBb hR rfl rfl rfl inferInstance ?hm ?hv ?hn ?_; (case hm => first | with_reducible assumption | repeat (first | exact .head _ | with_reducible assumption | apply mC)); (case hv => first | with_reducible assumption | (simp only [kC, kD, kE, kF]; try rfl)); (case hn => first | rfl | simp)) | (go_at_call 18; refine (x1 _).mono ?_; rintro e w ⟨rfl, hb⟩; replace hR := hR.call hb; clear hb) | (go_at_call 18; refine (x2 _).mono ?_; rintro e w ⟨rfl, hb⟩; replace hR := hR.call hb; clear hb) | (refine' xCf hR rfl rfl rfl rfl (xCg _ _) ?_; clear hR; intro bt w hR) | (go_at_call 28; refine (cx _ _ _ (.head _) hR).mono ?_; clear hR; rintro e w ⟨rfl, hR⟩))
  rename_i bg u1 bsc u2 bh u3 bd u4 bv u5 bn u6 u7 u8 bk u9 u10 u11 u12 u13 u14 K0 kz
  obtain ⟨br, hbr⟩ : ∃ x, x = blk := ⟨_, rfl⟩
  subst hbr
  refine wp_region_F hR 8 xCu rfl ?_
  clear hR
  refine fHeads [(bg, Obj.cells (gl p q g h).toArray 26), (bh, Obj.cells (u8s 32 H).toArray 28), (bk, Obj.cells (nl key).toArray 24), (br, Obj.cells (nl r).toArray 24)] [1, 1, 1, 2, 1, 2, 2, 2] 4 rfl (by repeat (first | exact xCd | refine xBu (by repeat (first | exact .head _ | with_reducible assumption | apply mC)) ?_)) (by repeat (first | exact xCd | refine xBu (by repeat (first | exact .head _ | with_reducible assumption | apply mC)) ?_)) rfl (by decide +kernel) (fun K hK => ?_)
  repeat ((first | (refine' hd_keepAll rfl rfl rfl inferInstance ?hm ?hn ?ha ?_; (case hm => first | with_reducible assumption | repeat (first | exact .head _ | apply mC)); (case hn => first | rfl | simp)) | (refine xBo ?_) | (refine' xAv (by decide) rfl (.inl rfl) rfl ?ha ?_) | (refine' xAv (by decide) rfl (.inr rfl) rfl ?ha ?_) | (refine' xAu rfl rfl rfl inferInstance ?hm ?hn ?ha ?_; (case hm => first | with_reducible assumption | repeat (first | exact .head _ | with_reducible assumption | apply mC)); (case hn => first | rfl | simp)) | (refine' xAp rfl rfl rfl inferInstance ?hm ?hv ?hn ?ha ?_; (case hm => first | with_reducible assumption | repeat (first | exact .head _ | with_reducible assumption | apply mC)); (case hv => first | with_reducible assumption | (simp only [kC, kD, kE, kF]; try rfl)); (case hn => first | rfl | simp)) | (refine' xAl rfl rfl rfl inferInstance ?hm ?hv ?ha ?_; (case hm => first | with_reducible assumption | repeat (first | exact .head _ | with_reducible assumption | apply mC)); (case hv => first | rfl | with_reducible assumption)) | (refine' xAq rfl rfl rfl inferInstance ?hm ?hv ?hn ?ha ?_; (case hm => first | with_reducible assumption | repeat (first | exact .head _ | with_reducible assumption | apply mC)); (case hv => first | with_reducible assumption | (simp only [kC, kD, kE, kF]; try rfl)); (case hn => first | rfl | simp)) | (refine' xAm rfl rfl rfl inferInstance ?hm ?hv ?ha ?_; (case hm => first | with_reducible assumption | repeat (first | exact .head _ | with_reducible assumption | apply mC)); (case hv => first | rfl | with_reducible assumption)) | ((first | refine' xAi (by decide) rfl rfl rfl rfl (fun w => ?hq) ?ha ?_ | refine' xBe (by decide) rfl rfl rfl rfl (fun w => ?hq) ?ha ?_ | refine' xAs (by decide) rfl rfl rfl (fun w => ?hq) ?ha ?_ | refine' xAj (by decide) rfl rfl rfl (fun w => ?hq) ?ha ?_ | refine' xAt (by decide) rfl rfl rfl (fun w => ?hq) ?ha ?_ | refine' xBh (by decide) rfl rfl rfl rfl (fun w => ?hq) ?ha ?_ | refine' xBg (by decide) rfl rfl rfl rfl rfl rfl (fun w => ?hq) ?ha ?_ | refine' xBd (by decide) rfl rfl (fun w => ?hq) ?ha ?_ | refine' xAr (by decide) rfl rfl rfl (fun w => ?hq) ?ha ?_ | refine' xBf (by decide) rfl rfl rfl (fun w => ?hq) ?ha ?_); (case hq => go_simp; try rfl)) | (refine' xAk (by decide) rfl rfl rfl ?ha ?_) | (refine' xBp (by decide) rfl rfl rfl rfl ?ha ?_) | (refine' xBn (by decide) rfl ?ha ?_)); try (case ha => simp only [kP, kQ, kA, kB]; try rfl))
  refine xBt (hK _ _ ?_)
  clear hK K
  repeat' (first
    | exact f_nil
    | (refine f_is 3 ?_; refine f_call _ rfl rfl rfl rfl rfl (xBm Try.func29 (by kernel_rfl) (by kernel_rfl) _) (fun w hw => signs_made (p := p) (q := q) (g := g) (h := h) (key := key) (H := H) hw) (fun v M hM => ?_) ?_; (obtain ⟨b3, b4, b5, rfl, rfl⟩ := hM; refine ⟨(by repeat (first | exact xCd | refine xBu (by repeat (first | exact .head _ | with_reducible assumption | apply mC)) ?_)), ?_⟩; try simp only [Act.put, kA, kB, List.setIfInBounds_toArray]))
    | (refine f_is 5 ?_; refine f_y rfl rfl (yields_callV rfl rfl rfl rfl (xBm Try.func46 (by kernel_rfl) (by kernel_rfl) _) (fun w hw => cl _ _ _ _ (by repeat (first | exact .head _ | with_reducible assumption | apply mC)) (by repeat (first | exact .head _ | with_reducible assumption | apply mC)) (by repeat (first | exact .head _ | with_reducible assumption | apply mC)) w hw)) (by repeat (first | exact xCd | refine xBu (by repeat (first | exact .head _ | with_reducible assumption | apply mC)) ?_)) ?_ ?_; try simp only [Act.put, kA, kB, List.setIfInBounds_toArray])
    | (refine f_is 6 ?_; refine f_new rfl rfl (isNew_allocR rfl rfl) (by repeat (first | exact xCd | refine xBu (by repeat (first | exact .head _ | with_reducible assumption | apply mC)) ?_)) (fun b6 => ?_) ?_; try simp only [Act.put, kA, kB, List.setIfInBounds_toArray])
    | (refine f_is 7 ?_; refine f_s rfl rfl (yields_storeAll rfl rfl rfl inferInstance rfl rfl rfl rfl (by repeat (first | exact xAh.head | apply xAh.tail))) (by repeat (first | exact xCd | refine xBu (by repeat (first | exact .head _ | with_reducible assumption | apply mC)) ?_)) ?_ ?_; try simp only [Act.put, kA, kB, List.setIfInBounds_toArray])
    | refine f_at [3, 6] (by decide +kernel) rfl ?_
    | refine f_at [5, 6] (by decide +kernel) rfl ?_
    | refine f_at [3] (by decide +kernel) rfl ?_
    | refine f_at [5] (by decide +kernel) rfl ?_
    | refine f_at [6] (by decide +kernel) rfl ?_
    | refine f_at [7] (by decide +kernel) rfl ?_)
  all_goals refine f_end (by decide +kernel) (fun w hR => ?_)
  all_goals simp only [Exit.then]
  all_goals refine kz _ _ ?_
  all_goals clear kz
  all_goals go_wp2_with (first | (refine' xAf hR rfl rfl rfl ?_; clear hR; intro blk w hR) | (refine' xAb hR rfl rfl inferInstance ?_; clear hR; intro blk w hR) | (refine' xAc hR rfl rfl rfl inferInstance ?hm ?hn ?_; (case hm => first | with_reducible assumption | repeat (first | exact .head _ | with_reducible assumption | apply mC)); (case hn => first | rfl | simp)) | (refine' xAd hR rfl rfl rfl inferInstance ?hm ?hv ?hn ?_; (case hm => first | with_reducible assumption | repeat (first | exact .head _ | with_reducible assumption | apply mC)); (case hv => first | with_reducible assumption | (simp only [kC, kD, kE, kF]; try rfl)); (case hn => first | rfl | simp)) | (refine' xAa hR rfl rfl rfl inferInstance rfl ?hs ?zone ?zvn ?hn ?_; (case hs => repeat (first | exact xAh.head | apply xAh.tail)); (case zone => first | rfl | with_reducible assumption); (case zvn => first | rfl | simp); (case hn => first | rfl | simp); clear hR; intro w hR) | (go_at_call 22; refine (cm _).mono ?_; rintro e w ⟨rfl, hb⟩; replace hR := hR.call hb; clear hb) | (go_at_call 19; refine (ca _).mono ?_; rintro e w ⟨rfl, hb⟩; replace hR := hR.call hb; clear hb) | (refine' wpList_build rfl rfl ?hrun ?_; (case hrun => simp only [List.map_toArray, List.map_cons, List.map_nil]; exact bs _)))
  all_goals (refine' bodyPost_ret (xBj Try.results12 rfl (hR.loadAll (P := Try.prog) (ty := 30) ?hm ?hn)) rfl ⟨rfl, hR.below⟩; (case hm => repeat (first | exact .head _ | apply mC)); (case hn => rfl))
end
end Go.Proofs.Ytklidiambinhkaa
