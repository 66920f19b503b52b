import Derived.Test.YtaaahfjpnggkbaaGreatDoorHBA
import Derived.Test.YtaaahfjpnggkbaaGreatDoorHXM
import Derived.Test.YtaaahfjpnggkbaaGreatDoorHBC
import Derived.Test.YtaaahfjpnggkbaaGreatDoorHXI
set_option linter.unusedSimpArgs false
set_option linter.unusedVariables false
set_option maxRecDepth 100000
set_option maxHeartbeats 20000000
namespace Go.Proofs.YtaaahfjpnggkbaaGreatDoor
open Go.RowKit
section
def bkI (t : Value) (N : Int) (s : Value) : List Value := [.int .i64 N, .slice none 0 0, t, .slice none 0 0, s, .slice none 0 0, .slice none 0 0, .slice none 0 0, .slice none 0 0, .slice none 0 0, .slice none 0 0, .slice none 0 0, .slice none 0 0, .slice none 0 0, .slice none 0 0, .slice none 0 0, .slice none 0 0, .slice none 0 0]
theorem bk_nI {t : Value} (N : Int) (s : Value) : (bkI t N s)[0]? = some (.int .i64 N) := rfl
theorem bk_sI {t : Value} (N : Int) (s : Value) : (bkI t N s)[4]? = some s := rfl
theorem bk_setnI {t : Value} (N M : Int) (s : Value) : (bkI t N s).set 0 (.int .i64 M) = bkI t M s := rfl
theorem bk_setsI {t : Value} (N : Int) (s u : Value) : (bkI t N s).set 4 u = bkI t N u := rfl
theorem bk_lenI {t : Value} (N : Int) (s : Value) : (bkI t N s).length = 18 := rfl
attribute [local irreducible] Calls Instr.build Instr.buildSlice
section
variable {B0 : Nat} {w0 w : World} {R : List (Nat × Obj)} {bb : Nat} {t : Value} {E : Nat → Ent}
theorem keep_numI {x : GrH} {m N n c : Nat} {a : Option Addr} (hx : GrHOk x m E) (hm : m ≤ 1000) (hN : N ≤ 1000) (hE : E m = ⟨a, n, c, none, 0, 0, N + 1⟩) (hR : Rep B0 w0 ((bb, .cells (bkI t N (.slice x.a m x.cap)).toArray 57) :: (x.bl ++ R)) w) :
  Calls Tryz.prog 48 #[.pointer (some ⟨bb, 0, none⟩), .slice a n c] w fun e w' => e = .returned (.tuple #[]) ∧ ∃ x' : GrH, GrHOk x' (m + 1) E ∧ Rep B0 w0 ((bb, .cells (bkI t ((N + 1 : Nat) : Int) (.slice x'.a (m + 1 : Nat) x'.cap)).toArray 57) :: (R ++ x'.bl)) w' := by
 have t0 := bk_nI (t := t) N (.slice x.a m x.cap)
 have s0 := bk_setnI (t := t) N ((N + 1 : Nat) : Int) (.slice x.a m x.cap)
 have t1 := bk_nI (t := t) ((N + 1 : Nat) : Int) (.slice x.a m x.cap)
 have t4 := bk_sI (t := t) ((N + 1 : Nat) : Int) (.slice x.a m x.cap)
 have tl0 : 0 < (bkI t N (.slice x.a m x.cap)).length := by rw [bk_lenI (t := t)]; decide
 have ew : IntKind.i64.wrap ((N : Int) + 1) = ((N + 1 : Nat) : Int) := by rw [IntKind.wrap_i64]; omega
 have hb := fun w => held_build a n c ((N + 1 : Nat) : Int) w
 have hrw : [Value.slice a n c, .slice none 0 0, .int .i64 ((N + 1 : Nat) : Int)] = hrow (E m) := by rw [hE]; rfl
 rw [hrw] at hb
 replace hx := Held.mk hx
 clear hE hrw
 go_enter Tryz.func48, Tryz.ntmps48
 go_wp2_with (first | (refine' aMq hR ?_) | (refine' aHq hR ?_; clear hR; intro w hR))
 try simp only [Act.put, kA, kB, List.setIfInBounds_toArray]
 refine xBl hR 16 xBd rfl ?_
 clear hR
 refine xCo [] [1, 1, 1, 1, 2, 1, 1, 1, 1, 2, 2, 2, 2, 2, 2, 2] 8 rfl (by repeat (exact xAu)) (by repeat (exact xAu)) rfl (by decide +kernel) (fun K hK => ?_)
 repeat ((first | (refine xAp ?_) | (refine' xAj (by decide) rfl (.inl rfl) rfl ?ha ?_) | ((refine' xAl (by decide) rfl rfl rfl (fun w => ?hq) ?ha ?_); (case hq => go_simp; try rfl)) | (refine' xAz (by decide) rfl rfl rfl ?ha ?_)); try (case ha => simp only [kP, kQ, kA, kB]; try rfl))
 refine xAo (hK _ _ ?_)
 clear hK K
 refine f_at [4, 9] (by decide +kernel) rfl ?_
 refine f_is 4 ?_
 refine f_y rfl rfl (xCh rfl rfl rfl inferInstance (.head _) t4) (fun p hp => nomatch hp) ?pA ?pB
 case' pA =>
  try simp only [Act.put, kA, kB, List.setIfInBounds_toArray]
  refine f_at [9] (by decide +kernel) rfl ?_
  refine f_is 9 ?_
  refine f_y rfl rfl (xCh rfl rfl rfl inferInstance (.head _) t1) (fun p hp => nomatch hp) ?_ xCl
  try simp only [Act.put, kA, kB, List.setIfInBounds_toArray]
  refine xCo [] [2, 2, 2, 2, 2, 2, 2, 2, 2, 2, 1, 2, 2, 2, 2, 2] 5 rfl (by repeat (exact xAu)) (by repeat (exact xAu)) rfl (by decide +kernel) (fun K hK => ?_)
  repeat ((first | (refine' xCr (by decide) rfl rfl (fun w => ?hq) ?ha ?_; (case hq => simp only [List.map_toArray, List.map_cons, List.map_nil]; exact hb _)) | (refine xAp ?_)); try (case ha => simp only [kP, kQ, kA, kB]; try rfl))
  refine xAo (hK _ _ ?_)
  clear hK K
  refine f_at [11] (by decide +kernel) rfl ?_
  refine f_is 11 ?_
  refine f_new rfl rfl (xIc rfl rfl rfl) (fun p hp => nomatch hp) (fun bs => ?_) xCl
  try simp only [Act.put, kA, kB, List.setIfInBounds_toArray]
  refine f_at [12] (by decide +kernel) rfl ?_
  refine f_is 12 ?_
  refine f_appH (x := x) (n := m) (f := E) (b := bs) (v := E m) (R0 := (bb, .cells (bkI t ((N + 1 : Nat) : Int) (.slice x.a m x.cap)).toArray 57) :: R) rfl rfl rfl rfl rfl rfl (List.Perm.cons _ List.perm_middle.symm) hx.out rfl (by omega) (fun p hp => nomatch hp) (fun x' hx' => ?_) xCl
  try simp only [Act.put, kA, kB, List.setIfInBounds_toArray]
  have s4 := bk_setsI (t := t) ((N + 1 : Nat) : Int) (.slice x.a m x.cap) (.slice x'.a (m + 1 : Nat) x'.cap)
  have tl4 : 4 < (bkI t ((N + 1 : Nat) : Int) (.slice x.a m x.cap)).length := by rw [bk_lenI (t := t)]; decide
  refine xCo [] [2, 2, 2, 2, 2, 2, 2, 2, 2, 2, 2, 2, 2, 1, 1, 2] 1 rfl (by repeat (exact xAu)) (by repeat (exact xAu)) rfl (by decide +kernel) (fun K hK => ?_)
  repeat ((first | (refine xAp ?_) | ((refine' xAl (by decide) rfl rfl rfl (fun w => ?hq) ?ha ?_); (case hq => go_simp; try rfl)) | (refine' xAz (by decide) rfl rfl rfl ?ha ?_)); try (case ha => simp only [kP, kQ, kA, kB]; try rfl))
  refine xAo (hK _ _ ?_)
  clear hK K
  refine f_at [15] (by decide +kernel) rfl ?_
  refine f_is 15 ?_
  refine f_s rfl rfl (xDk rfl rfl rfl inferInstance rfl rfl tl4 s4 xBq.head) (fun p hp => nomatch hp) ?_ xCl
  refine f_end (by decide +kernel) (fun w hR => ?_)
  go_end0
  exact ⟨rfl, x', hx', hR⟩
 case' pB =>
  refine f_is 9 ?_
  refine f_y rfl rfl (xCh rfl rfl rfl inferInstance (.head _) t1) (fun p hp => nomatch hp) ?_ xCl
  try simp only [Act.put, kA, kB, List.setIfInBounds_toArray]
  refine xCo [] [2, 2, 2, 2, 2, 2, 2, 2, 2, 2, 1, 2, 2, 2, 2, 2] 6 rfl (by repeat (exact xAu)) (by repeat (exact xAu)) rfl (by decide +kernel) (fun K hK => ?_)
  repeat ((first | (refine' xCr (by decide) rfl rfl (fun w => ?hq) ?ha ?_; (case hq => simp only [List.map_toArray, List.map_cons, List.map_nil]; exact hb _)) | (refine xAp ?_)); try (case ha => simp only [kP, kQ, kA, kB]; try rfl))
  refine xAo (hK _ _ ?_)
  clear hK K
  refine f_at [4, 11] (by decide +kernel) rfl ?_
  refine f_is 4 ?_
  refine f_y rfl rfl (xCh rfl rfl rfl inferInstance (.head _) t4) (fun p hp => nomatch hp) ?qA ?qB
  case' qA =>
   try simp only [Act.put, kA, kB, List.setIfInBounds_toArray]
   refine f_at [11] (by decide +kernel) rfl ?_
   refine f_is 11 ?_
   refine f_new rfl rfl (xIc rfl rfl rfl) (fun p hp => nomatch hp) (fun bs => ?_) xCl
   try simp only [Act.put, kA, kB, List.setIfInBounds_toArray]
   refine f_at [12] (by decide +kernel) rfl ?_
   refine f_is 12 ?_
   refine f_appH (x := x) (n := m) (f := E) (b := bs) (v := E m) (R0 := (bb, .cells (bkI t ((N + 1 : Nat) : Int) (.slice x.a m x.cap)).toArray 57) :: R) rfl rfl rfl rfl rfl rfl (List.Perm.cons _ List.perm_middle.symm) hx.out rfl (by omega) (fun p hp => nomatch hp) (fun x' hx' => ?_) xCl
   try simp only [Act.put, kA, kB, List.setIfInBounds_toArray]
   have s4 := bk_setsI (t := t) ((N + 1 : Nat) : Int) (.slice x.a m x.cap) (.slice x'.a (m + 1 : Nat) x'.cap)
   have tl4 : 4 < (bkI t ((N + 1 : Nat) : Int) (.slice x.a m x.cap)).length := by rw [bk_lenI (t := t)]; decide
   refine xCo [] [2, 2, 2, 2, 2, 2, 2, 2, 2, 2, 2, 2, 2, 1, 1, 2] 1 rfl (by repeat (exact xAu)) (by repeat (exact xAu)) rfl (by decide +kernel) (fun K hK => ?_)
   repeat ((first | (refine xAp ?_) | ((refine' xAl (by decide) rfl rfl rfl (fun w => ?hq) ?ha ?_); (case hq => go_simp; try rfl)) | (refine' xAz (by decide) rfl rfl rfl ?ha ?_)); try (case ha => simp only [kP, kQ, kA, kB]; try rfl))
   refine xAo (hK _ _ ?_)
   clear hK K
   refine f_at [15] (by decide +kernel) rfl ?_
   refine f_is 15 ?_
   refine f_s rfl rfl (xDk rfl rfl rfl inferInstance rfl rfl tl4 s4 xBq.head) (fun p hp => nomatch hp) ?_ xCl
   refine f_end (by decide +kernel) (fun w hR => ?_)
   go_end0
   exact ⟨rfl, x', hx', hR⟩
  case' qB =>
   refine f_is 11 ?_
   refine f_new rfl rfl (xIc rfl rfl rfl) (fun p hp => nomatch hp) (fun bs => ?_) xCl
   try simp only [Act.put, kA, kB, List.setIfInBounds_toArray]
   refine f_at [4] (by decide +kernel) rfl ?_
   refine f_is 4 ?_
   refine f_y rfl rfl (xCh rfl rfl rfl inferInstance (.tail _ (.head _)) t4) (fun p hp => nomatch hp) ?_ xCl
   try simp only [Act.put, kA, kB, List.setIfInBounds_toArray]
   refine f_at [12] (by decide +kernel) rfl ?_
   refine f_is 12 ?_
   refine f_appH (x := x) (n := m) (f := E) (b := bs) (v := E m) (R0 := (bb, .cells (bkI t ((N + 1 : Nat) : Int) (.slice x.a m x.cap)).toArray 57) :: R) rfl rfl rfl rfl rfl rfl (List.Perm.cons _ List.perm_middle.symm) hx.out rfl (by omega) (fun p hp => nomatch hp) (fun x' hx' => ?_) xCl
   try simp only [Act.put, kA, kB, List.setIfInBounds_toArray]
   have s4 := bk_setsI (t := t) ((N + 1 : Nat) : Int) (.slice x.a m x.cap) (.slice x'.a (m + 1 : Nat) x'.cap)
   have tl4 : 4 < (bkI t ((N + 1 : Nat) : Int) (.slice x.a m x.cap)).length := by rw [bk_lenI (t := t)]; decide
   refine xCo [] [2, 2, 2, 2, 2, 2, 2, 2, 2, 2, 2, 2, 2, 1, 1, 2] 1 rfl (by repeat (exact xAu)) (by repeat (exact xAu)) rfl (by decide +kernel) (fun K hK => ?_)
   repeat ((first | (refine xAp ?_) | ((refine' xAl (by decide) rfl rfl rfl (fun w => ?hq) ?ha ?_); (case hq => go_simp; try rfl)) | (refine' xAz (by decide) rfl rfl rfl ?ha ?_)); try (case ha => simp only [kP, kQ, kA, kB]; try rfl))
   refine xAo (hK _ _ ?_)
   clear hK K
   refine f_at [15] (by decide +kernel) rfl ?_
   refine f_is 15 ?_
   refine f_s rfl rfl (xDk rfl rfl rfl inferInstance rfl rfl tl4 s4 xBq.head) (fun p hp => nomatch hp) ?_ xCl
   refine f_end (by decide +kernel) (fun w hR => ?_)
   go_end0
   exact ⟨rfl, x', hx', hR⟩
end
end
section
attribute [local irreducible] Calls Instr.build Instr.buildSlice
section
variable {B0 : Nat} {w0 w : World} {R : List (Nat × Obj)} {bb hb : Nat} {E : Nat → Ent} {g : Nat → Option Nat} {hcur : List Value} {m hc : Nat} {N : Int} {ib : Nat} {Ei : Nat → Ent} {gi : Nat → Option Nat} {icur : List Value} {mi ic : Nat}
theorem pAB {α : Type _} (A H I : α) (X Y R : List α) : (A :: H :: (X ++ (I :: (Y ++ R)))).Perm (A :: I :: (Y ++ (H :: (X ++ R)))) := (List.perm_append_comm_assoc (H :: X) (I :: Y) R).cons A
theorem apart_both {C : Nat → List Value} {f : Nat → Nat → Nat} {Ci : Nat → List Value} {fi : Nat → Nat → Int} (hm : m ≤ 1000) (hrw : ∀ j, j < m → (hcur.drop (j * 3)).take 3 = hrow (E j)) (hl : m * 3 ≤ hcur.length) (hk : ∀ j, j < m → (E j).k ≤ 1000000 ∧ (E j).n ≤ 900000) (hE : ∀ j, j < m → EntOk (E j) (g j) (C j) (f j))
  (hmi : mi ≤ 1000) (hrwi : ∀ j, j < mi → (icur.drop (j * 3)).take 3 = hrow (Ei j)) (hli : mi * 3 ≤ icur.length) (hki : ∀ j, j < mi → (Ei j).k ≤ 1000000 ∧ (Ei j).n ≤ 900000) (hEi : ∀ j, j < mi → xFc (Ei j) (gi j) (Ci j) (fi j))
  (hR : Rep B0 w0 ((bb, .cells (bkI (.slice (some ⟨ib, 0, none⟩) mi ic) N (.slice (some ⟨hb, 0, none⟩) m hc)).toArray 57) :: (hb, .cells hcur.toArray 122) :: (xBt (fun j => blkE (g j) (C j)) m ++ ((ib, .cells icur.toArray 128) :: (xBt (fun j => xFu (gi j) (Ci j)) mi ++ R)))) w) :
  Calls Tryz.prog 17 #[.pointer (some ⟨bb, 0, none⟩)] w fun e w' => e = .returned (.bool true) ∧ Rep B0 w0 R w' := by
 have d1 : ∀ w : World, Rep B0 w0 ((bb, .cells (bkI (.slice (some ⟨ib, 0, none⟩) mi ic) N (.slice (some ⟨hb, 0, none⟩) m hc)).toArray 57) :: (hb, .cells hcur.toArray 122) :: (xBt (fun j => blkE (g j) (C j)) m ++ ((ib, .cells icur.toArray 128) :: (xBt (fun j => xFu (gi j) (Ci j)) mi ++ R)))) w → Calls Tryz.prog 50 #[.pointer (some ⟨bb, 0, none⟩)] w fun e w' => e = .returned (.tuple #[]) ∧ ∃ C' : Nat → List Value, (∀ j, j < mi → xFc (Ei j) (gi j) (C' j) (fun _ => -((Ei j).k : Int))) ∧ Rep B0 w0 ((bb, .cells (bkI (.slice (some ⟨ib, 0, none⟩) mi ic) N (.slice (some ⟨hb, 0, none⟩) m hc)).toArray 57) :: (hb, .cells hcur.toArray 122) :: (xBt (fun j => blkE (g j) (C j)) m ++ ((ib, .cells icur.toArray 128) :: (xBt (fun j => xFu (gi j) (C' j)) mi ++ R)))) w' :=
  fun w hw => (fill_numJ (R := (hb, .cells hcur.toArray 122) :: (xBt (fun j => blkE (g j) (C j)) m ++ R)) hmi (bk_sJ (u := .slice (some ⟨hb, 0, none⟩) m hc) N _) hrwi hli (fun j hj => ⟨(hki j hj).1, by have := (hki j hj).2; omega⟩) hEi (hw.permT (pAB _ _ _ _ _ _))).mono fun e w' ⟨q1, C', q2, q3⟩ => ⟨q1, C', q2, q3.permT (pAB _ _ _ _ _ _)⟩
 have c1 := fun (D : Nat → List Value) (w : World) (hw : Rep B0 w0 ((bb, .cells (bkI (.slice (some ⟨ib, 0, none⟩) mi ic) N (.slice (some ⟨hb, 0, none⟩) m hc)).toArray 57) :: (hb, .cells hcur.toArray 122) :: (xBt (fun j => blkE (g j) (C j)) m ++ ((ib, .cells icur.toArray 128) :: (xBt (fun j => xFu (gi j) (D j)) mi ++ R)))) w) => fill_num hm (bk_sI (t := .slice (some ⟨ib, 0, none⟩) mi ic) N _) hrw hl (fun j hj => ⟨(hk j hj).1, by have := (hk j hj).2; omega⟩) hE hw
 have d2 : ∀ (C' D : Nat → List Value) (hD : ∀ j, j < mi → xFc (Ei j) (gi j) (D j) (fun _ => -((Ei j).k : Int))) (w : World) (hw : Rep B0 w0 ((bb, .cells (bkI (.slice (some ⟨ib, 0, none⟩) mi ic) N (.slice (some ⟨hb, 0, none⟩) m hc)).toArray 57) :: (hb, .cells hcur.toArray 122) :: (xBt (fun j => blkE (g j) (C' j)) m ++ ((ib, .cells icur.toArray 128) :: (xBt (fun j => xFu (gi j) (D j)) mi ++ R)))) w), Calls Tryz.prog 67 #[.pointer (some ⟨bb, 0, none⟩)] w fun e w' => e = .returned (.tuple #[]) ∧ ∃ (E' : Nat → Ent) (icur' : List Value) (F' : Nat → List (Nat × Obj)), icur'.length = icur.length ∧ (∀ j, j < mi → (icur'.drop (j * 3)).take 3 = hrow (E' j) ∧ GrownJ (Ei j) (E' j) (gi j) (F' j)) ∧ Rep B0 w0 ((bb, .cells (bkI (.slice (some ⟨ib, 0, none⟩) mi ic) N (.slice (some ⟨hb, 0, none⟩) m hc)).toArray 57) :: (hb, .cells hcur.toArray 122) :: (xBt (fun j => blkE (g j) (C' j)) m ++ ((ib, .cells icur'.toArray 128) :: (xBt F' mi ++ R)))) w' :=
  fun C' D hD w hw => (grow_numJ (R := (hb, .cells hcur.toArray 122) :: (xBt (fun j => blkE (g j) (C' j)) m ++ R)) hmi (bk_sJ (u := .slice (some ⟨hb, 0, none⟩) m hc) N _) hrwi hli hki hD (hw.permT (pAB _ _ _ _ _ _))).mono fun e w' ⟨q1, E', icur', F', q2, q3, q4⟩ => ⟨q1, E', icur', F', q2, q3, q4.permT (pAB _ _ _ _ _ _)⟩
 have c2 := fun (C' : Nat → List Value) (Fi : Nat → List (Nat × Obj)) (icur' : List Value) (hC' : ∀ j, j < m → EntOk (E j) (g j) (C' j) (fun _ => (E j).k)) (w : World) (hw : Rep B0 w0 ((bb, .cells (bkI (.slice (some ⟨ib, 0, none⟩) mi ic) N (.slice (some ⟨hb, 0, none⟩) m hc)).toArray 57) :: (hb, .cells hcur.toArray 122) :: (xBt (fun j => blkE (g j) (C' j)) m ++ ((ib, .cells icur'.toArray 128) :: (xBt Fi mi ++ R)))) w) => grow_num hm (bk_sI (t := .slice (some ⟨ib, 0, none⟩) mi ic) N _) hrw hl hk hC' hw
 replace hk := Held.mk hk
 replace hrw := Held.mk hrw
 replace hki := Held.mk hki
 replace hrwi := Held.mk hrwi
 clear hE hEi
 go_enter Tryz.func17, Tryz.ntmps17
 go_wp2_with (first | (go_at_call 49; refine (fill_Byte (.head _) rfl hR).mono ?_; clear hR; rintro e w ⟨rfl, hR⟩) | (go_at_call 50; refine (d1 _ hR).mono ?_; clear hR; rintro e w ⟨rfl, Di, hDi, hR⟩; replace hDi := Held.mk hDi) | (go_at_call 51; refine (fill_Text (.head _) rfl hR).mono ?_; clear hR; rintro e w ⟨rfl, hR⟩) | (go_at_call 52; refine (c1 _ _ hR).mono ?_; clear hR; rintro e w ⟨rfl, C', hC', hR⟩; replace hC' := Held.mk hC') | (go_at_call 53; refine (fill_Hash (.head _) rfl hR).mono ?_; clear hR; rintro e w ⟨rfl, hR⟩) | (go_at_call 54; refine (fill_Reason (.head _) rfl hR).mono ?_; clear hR; rintro e w ⟨rfl, hR⟩) | (go_at_call 55; refine (fill_Key (.head _) rfl hR).mono ?_; clear hR; rintro e w ⟨rfl, hR⟩) | (go_at_call 56; refine (fill_Proof (.head _) rfl hR).mono ?_; clear hR; rintro e w ⟨rfl, hR⟩) | (go_at_call 57; refine (fill_Dealing (.head _) rfl hR).mono ?_; clear hR; rintro e w ⟨rfl, hR⟩) | (go_at_call 58; refine (fill_Opened (.head _) rfl hR).mono ?_; clear hR; rintro e w ⟨rfl, hR⟩) | (go_at_call 59; refine (fill_Shown (.head _) rfl hR).mono ?_; clear hR; rintro e w ⟨rfl, hR⟩) | (go_at_call 60; refine (fill_Vote (.head _) rfl hR).mono ?_; clear hR; rintro e w ⟨rfl, hR⟩) | (go_at_call 61; refine (fill_Block (.head _) rfl hR).mono ?_; clear hR; rintro e w ⟨rfl, hR⟩) | (go_at_call 62; refine (fill_Evidence (.head _) rfl hR).mono ?_; clear hR; rintro e w ⟨rfl, hR⟩) | (go_at_call 63; refine (fill_Msg (.head _) rfl hR).mono ?_; clear hR; rintro e w ⟨rfl, hR⟩) | (go_at_call 64; refine (fill_Frame (.head _) rfl hR).mono ?_; clear hR; rintro e w ⟨rfl, hR⟩) | (go_at_call 65; refine (fill_Record (.head _) rfl hR).mono ?_; clear hR; rintro e w ⟨rfl, hR⟩) | (go_at_call 66; refine (grow_Byte (.head _) rfl hR).mono ?_; clear hR; rintro e w ⟨rfl, hR⟩) | (go_at_call 67; refine (d2 _ _ hDi.out _ hR).mono ?_; clear hR; rintro e w ⟨rfl, Ei', icur', Fi', ilen', hGi', hR⟩; replace hGi' := Held.mk hGi'; replace ilen' := Held.mk ilen') | (go_at_call 68; refine (grow_Text (.head _) rfl hR).mono ?_; clear hR; rintro e w ⟨rfl, hR⟩) | (go_at_call 69; refine (c2 _ _ _ hC'.out _ hR).mono ?_; clear hR; rintro e w ⟨rfl, E', hcur', F', hlen', hG', hR⟩; replace hG' := Held.mk hG'; replace hlen' := Held.mk hlen') | (go_at_call 70; refine (grow_Hash (.head _) rfl hR).mono ?_; clear hR; rintro e w ⟨rfl, hR⟩) | (go_at_call 71; refine (grow_Reason (.head _) rfl hR).mono ?_; clear hR; rintro e w ⟨rfl, hR⟩) | (go_at_call 72; refine (grow_Key (.head _) rfl hR).mono ?_; clear hR; rintro e w ⟨rfl, hR⟩) | (go_at_call 73; refine (grow_Proof (.head _) rfl hR).mono ?_; clear hR; rintro e w ⟨rfl, hR⟩) | (go_at_call 74; refine (grow_Dealing (.head _) rfl hR).mono ?_; clear hR; rintro e w ⟨rfl, hR⟩) | (go_at_call 75; refine (grow_Opened (.head _) rfl hR).mono ?_; clear hR; rintro e w ⟨rfl, hR⟩) | (go_at_call 76; refine (grow_Shown (.head _) rfl hR).mono ?_; clear hR; rintro e w ⟨rfl, hR⟩) | (go_at_call 77; refine (grow_Vote (.head _) rfl hR).mono ?_; clear hR; rintro e w ⟨rfl, hR⟩) | (go_at_call 78; refine (grow_Block (.head _) rfl hR).mono ?_; clear hR; rintro e w ⟨rfl, hR⟩) | (go_at_call 79; refine (grow_Evidence (.head _) rfl hR).mono ?_; clear hR; rintro e w ⟨rfl, hR⟩) | (go_at_call 80; refine (grow_Msg (.head _) rfl hR).mono ?_; clear hR; rintro e w ⟨rfl, hR⟩) | (go_at_call 81; refine (grow_Frame (.head _) rfl hR).mono ?_; clear hR; rintro e w ⟨rfl, hR⟩) | (go_at_call 82; refine (grow_Record (.head _) rfl hR).mono ?_; clear hR; rintro e w ⟨rfl, hR⟩))
 have c3 := fun (w : World) (hw : Rep B0 w0 ((bb, .cells (bkI (.slice (some ⟨ib, 0, none⟩) mi ic) N (.slice (some ⟨hb, 0, none⟩) m hc)).toArray 57) :: (hb, .cells hcur'.toArray 122) :: (xBt F' m ++ ((ib, .cells icur'.toArray 128) :: (xBt Fi' mi ++ R)))) w) => look_num (E := E') hm (bk_sI (t := .slice (some ⟨ib, 0, none⟩) mi ic) N _) (fun j hj => (hG'.out j hj).1) (by rw [hlen'.out]; exact hl) (fun j hj => by
  obtain ⟨_, h1, h2, h3, h4, h5, _⟩ := hG'.out j hj
  have := hk.out j hj
  exact ⟨by omega, by omega, by omega⟩) (fun j hj => grown_nat (hG'.out j hj).2 (Nat.lt_of_le_of_lt (hk.out j hj).1 (lt_B (by decide))) (fun p hp => .tail _ (.tail _ (List.mem_append_left _ (xKj hj hp))))) (.head _) (.tail _ (.head _)) hw
 have d3 := fun (w : World) (hw : Rep B0 w0 ((bb, .cells (bkI (.slice (some ⟨ib, 0, none⟩) mi ic) N (.slice (some ⟨hb, 0, none⟩) m hc)).toArray 57) :: (hb, .cells hcur'.toArray 122) :: (xBt F' m ++ ((ib, .cells icur'.toArray 128) :: (xBt Fi' mi ++ R)))) w) => look_numJ (E := Ei') hmi (bk_sJ (u := .slice (some ⟨hb, 0, none⟩) m hc) N _) (fun j hj => (hGi'.out j hj).1) (by rw [ilen'.out]; exact hli) (fun j hj => by
  obtain ⟨_, h1, h2, h3, h4, h5, _⟩ := hGi'.out j hj
  have := hki.out j hj
  exact ⟨by omega, by omega, by omega⟩) (fun j hj => grown_natJ (hGi'.out j hj).2 (fun p hp => .tail _ (.tail _ (List.mem_append_right _ (.tail _ (List.mem_append_left _ (xKj hj hp))))))) (.head _) (.tail _ (.tail _ (List.mem_append_right _ (.head _)))) hw
 clear c1 c2 d1 d2 hC' hDi hG' hGi' hlen' ilen' hk hki hrw hrwi
 go_wp2_with (first | (go_at_call 83; refine (look_Byte (.head _) rfl hR).mono ?_; clear hR; rintro e w ⟨rfl, hR⟩) | (go_at_call 84; refine (d3 _ hR).mono ?_; clear hR; rintro e w ⟨rfl, hR⟩) | (go_at_call 85; refine (look_Text (.head _) rfl hR).mono ?_; clear hR; rintro e w ⟨rfl, hR⟩) | (go_at_call 87; refine (look_Hash (.head _) rfl hR).mono ?_; clear hR; rintro e w ⟨rfl, hR⟩) | (go_at_call 88; refine (look_Reason (.head _) rfl hR).mono ?_; clear hR; rintro e w ⟨rfl, hR⟩) | (go_at_call 89; refine (look_Key (.head _) rfl hR).mono ?_; clear hR; rintro e w ⟨rfl, hR⟩) | (go_at_call 90; refine (look_Proof (.head _) rfl hR).mono ?_; clear hR; rintro e w ⟨rfl, hR⟩) | (go_at_call 91; refine (look_Dealing (.head _) rfl hR).mono ?_; clear hR; rintro e w ⟨rfl, hR⟩) | (go_at_call 92; refine (look_Opened (.head _) rfl hR).mono ?_; clear hR; rintro e w ⟨rfl, hR⟩) | (go_at_call 93; refine (look_Shown (.head _) rfl hR).mono ?_; clear hR; rintro e w ⟨rfl, hR⟩) | (go_at_call 94; refine (look_Vote (.head _) rfl hR).mono ?_; clear hR; rintro e w ⟨rfl, hR⟩) | (go_at_call 95; refine (look_Block (.head _) rfl hR).mono ?_; clear hR; rintro e w ⟨rfl, hR⟩) | (go_at_call 96; refine (look_Evidence (.head _) rfl hR).mono ?_; clear hR; rintro e w ⟨rfl, hR⟩) | (go_at_call 97; refine (look_Msg (.head _) rfl hR).mono ?_; clear hR; rintro e w ⟨rfl, hR⟩) | (go_at_call 98; refine (look_Frame (.head _) rfl hR).mono ?_; clear hR; rintro e w ⟨rfl, hR⟩) | (go_at_call 99; refine (look_Record (.head _) rfl hR).mono ?_; clear hR; rintro e w ⟨rfl, hR⟩) | (go_at_call 86; refine (c3 _ hR).mono ?_; clear hR; rintro e w ⟨rfl, hR⟩))
 go_ret
 exact ⟨rfl, hR.weaken ((((List.sublist_append_right _ _).cons _).trans (List.sublist_append_right _ _)).cons _ |>.cons _)⟩
end
end
section
theorem IAt.congr {B0 : Nat} {w0 : World} {L : List (Nat × Obj)} {a : Option Addr} {n cp : Nat} {f f' : Nat → Int} (h : IAt B0 w0 L a n cp f) (he : ∀ j, j < n → f j = f' j) : IAt B0 w0 L a n cp f' :=
 ⟨h.lec, h.big, fun hn => by
  obtain ⟨b, o, h1, h2⟩ := h.at' hn
  exact ⟨b, o, h1, fun w hw j hj => by rw [← he j hj]; exact h2 w hw j hj⟩⟩
theorem twin_iat {B0 : Nat} {w0 : World} {L : List (Nat × Obj)} {g cap n : Nat} {cur : List Value} {f : Nat → Int} (h : IOwn cap cur (n + 1) (twI f n)) (hm : (g, Obj.cells cur.toArray 3) ∈ L) : IAt B0 w0 L (some ⟨g, 0, none⟩) n cap f :=
 (h.at hm (Nat.le_succ n)).congr fun j hj => twI_lt f hj
theorem twin_entJ {g cap n k : Nat} {cur : List Value} {f : Nat → Int} (h : IOwn cap cur (n + 1) (twI f n)) : xFc ⟨some ⟨g, 0, none⟩, n, cap, none, 0, 0, k⟩ (some g) cur (twI f n) := .inr ⟨g, rfl, rfl, h.less (k := 1)⟩
theorem build_bookI (w : World) : (Instr.build 57 #[]).run Tryz.prog w = .ok (.agg (bkI (.slice none 0 0) 0 (.slice none 0 0)).toArray) w := build_book w
attribute [local irreducible] Calls Instr.build Instr.buildSlice
section
variable {B0 : Nat} {w0 w : World} {R L : List (Nat × Obj)} {bb : Nat} {E Ei : Nat → Ent}
theorem nums_anyI {t : Value} {x : GrH} {m N n c : Nat} {a : Option Addr} (hx : GrHOk x m E) (hm : m ≤ 1000) (hN : N ≤ 1000) (hE : E m = ⟨a, n, c, none, 0, 0, N + 1⟩) (hR : Rep B0 w0 ((bb, .cells (bkI t N (.slice x.a m x.cap)).toArray 57) :: (x.bl ++ R)) w) :
  Calls Tryz.prog 16 #[.pointer (some ⟨bb, 0, none⟩), .slice a n c] w fun e w' => e = .returned (.tuple #[]) ∧ ∃ x' : GrH, GrHOk x' (m + 1) E ∧ Rep B0 w0 ((bb, .cells (bkI t ((N + 1 : Nat) : Int) (.slice x'.a (m + 1 : Nat) x'.cap)).toArray 57) :: (R ++ x'.bl)) w' := by
 have ck := fun (w : World) (hw : Rep B0 w0 ((bb, .cells (bkI t N (.slice x.a m x.cap)).toArray 57) :: (x.bl ++ R)) w) => keep_numI hx hm hN hE hw
 clear hE
 replace hx := Held.mk hx
 go_enter Tryz.func16, Tryz.ntmps16
 go_wp2_with (go_at_call 48; refine (ck _ hR).mono ?_; clear hR; rintro e w ⟨rfl, x', hx', hR⟩)
 go_end0
 exact ⟨rfl, x', hx', hR⟩
theorem ints_anyJ {u : Value} {x : GrHJ} {m N n c : Nat} {a : Option Addr} (hx : xJb x m E) (hm : m ≤ 1000) (hN : N ≤ 1000) (hE : E m = ⟨a, n, c, none, 0, 0, N + 1⟩) (hR : Rep B0 w0 ((bb, .cells (bkJ u N (.slice x.a m x.cap)).toArray 57) :: (x.bl ++ R)) w) :
  Calls Tryz.prog 30 #[.pointer (some ⟨bb, 0, none⟩), .slice a n c] w fun e w' => e = .returned (.tuple #[]) ∧ ∃ x' : GrHJ, xJb x' (m + 1) E ∧ Rep B0 w0 ((bb, .cells (bkJ u ((N + 1 : Nat) : Int) (.slice x'.a (m + 1 : Nat) x'.cap)).toArray 57) :: (R ++ x'.bl)) w' := by
 have ck := fun (w : World) (hw : Rep B0 w0 ((bb, .cells (bkJ u N (.slice x.a m x.cap)).toArray 57) :: (x.bl ++ R)) w) => keep_numJ hx hm hN hE hw
 clear hE
 replace hx := Held.mk hx
 go_enter Tryz.func30, Tryz.ntmps30
 go_wp2_with (go_at_call 122; refine (ck _ hR).mono ?_; clear hR; rintro e w ⟨rfl, x', hx', hR⟩)
 go_end0
 exact ⟨rfl, x', hx', hR⟩
theorem xFl {t : Value} {x : GrH} {m N n c : Nat} {a : Option Addr} (hx : GrHOk x m E) (hm : m ≤ 1000) (hN : N ≤ 1000) (hE : E m = ⟨a, n, c, none, 0, 0, N + 1⟩) (hR : Rep B0 w0 ((bb, .cells (bkI t N (.slice x.a m x.cap)).toArray 57) :: (x.bl ++ R)) w) :
  Calls Tryz.prog 16 #[.pointer (some ⟨bb, 0, none⟩), .slice a n c] w fun e w' => e = .returned (.tuple #[]) ∧ ∃ x' : GrH, GrHOk x' (m + 1) E ∧ Rep B0 w0 ((bb, .cells (bkI t ((N + 1 : Nat) : Int) (.slice x'.a (m + 1 : Nat) x'.cap)).toArray 57) :: (x'.bl ++ R)) w' :=
 (nums_anyI hx hm hN hE hR).mono fun e w' ⟨h1, x', h2, h3⟩ => ⟨h1, x', h2, h3.permN (List.Perm.cons _ List.perm_append_comm)⟩
theorem book_ints {s : Value} {X : List (Nat × Obj)} {N n c : Nat} {a : Option Addr} (hN : N ≤ 1000) (hE : Ei 0 = ⟨a, n, c, none, 0, 0, N + 1⟩) (hR : Rep B0 w0 ((bb, .cells (bkI (.slice none 0 0) N s).toArray 57) :: (X ++ L)) w) :
  Calls Tryz.prog 30 #[.pointer (some ⟨bb, 0, none⟩), .slice a n c] w fun e w' => e = .returned (.tuple #[]) ∧ ∃ y : GrHJ, xJb y 1 Ei ∧ Rep B0 w0 ((bb, .cells (bkI (.slice y.a 1 y.cap) ((N + 1 : Nat) : Int) s).toArray 57) :: (X ++ (y.bl ++ L))) w' :=
 (ints_anyJ (u := s) (x := ⟨none, 0, []⟩) (m := 0) (R := X ++ L) (.inl ⟨rfl, rfl⟩) (by decide) hN hE hR).mono fun e w' ⟨h1, y, h2, h3⟩ => ⟨h1, y, h2, h3.permN (List.Perm.cons _ (by rw [List.append_assoc]; exact List.perm_append_comm.append_left X))⟩
theorem rows_at {m : Nat} {hcur : List Value} {E : Nat → Ent} (h4 : hcur.take (m * 3) = rowsH E m) {j : Nat} (hj : j < m) : (hcur.drop (j * 3)).take 3 = hrow (E j) := by
 have h5 : (hcur.take (m * 3)).drop (j * 3) = (hcur.drop (j * 3)).take (m * 3 - j * 3) := List.drop_take ..
 have h6 := rowsH_at E m j hj
 rw [← h4, h5, List.take_take] at h6
 rw [← h6]
 congr 1
 omega
theorem book_apartI {x : GrH} {y : GrHJ} {m mi : Nat} {g gi : Nat → Option Nat} {C Ci : Nat → List Value} {f : Nat → Nat → Nat} {fi : Nat → Nat → Int} (hx : GrHOk x m E) (hy : xJb y mi Ei) (hm0 : m ≠ 0) (hmi0 : mi ≠ 0) (hm : m ≤ 1000) (hmi : mi ≤ 1000) (hk : ∀ j, j < m → (E j).k ≤ 1000000 ∧ (E j).n ≤ 900000) (hki : ∀ j, j < mi → (Ei j).k ≤ 1000000 ∧ (Ei j).n ≤ 900000)
  (hE : ∀ j, j < m → EntOk (E j) (g j) (C j) (f j)) (hEi : ∀ j, j < mi → xFc (Ei j) (gi j) (Ci j) (fi j)) (hL : L.Perm (xBt (fun j => blkE (g j) (C j)) m ++ (xBt (fun j => xFu (gi j) (Ci j)) mi ++ R))) {N : Int}
  (hR : Rep B0 w0 ((bb, .cells (bkI (.slice y.a mi y.cap) N (.slice x.a m x.cap)).toArray 57) :: (x.bl ++ (y.bl ++ L))) w) :
  Calls Tryz.prog 17 #[.pointer (some ⟨bb, 0, none⟩)] w fun e w' => e = .returned (.bool true) ∧ Rep B0 w0 R w' := by
 rcases hx with ⟨_, h⟩ | ⟨hb, hcur, ha, hbl, h1, h2, h3, h4⟩
 ·exact absurd h hm0
 rcases hy with ⟨_, h⟩ | ⟨ib, icur, ia, ibl, i1, i2, i3, i4⟩
 ·exact absurd h hmi0
 rw [ha, hbl, ia, ibl] at hR
 exact apart_both hm (fun j hj => rows_at h4 hj) (by omega) hk hE hmi (fun j hj => rows_at i4 hj) (by omega) hki hEi (hR.permN (List.Perm.cons _ (List.Perm.cons _ ((hL.cons _).trans List.perm_middle.symm))))
end
end
end Go.Proofs.YtaaahfjpnggkbaaGreatDoor
