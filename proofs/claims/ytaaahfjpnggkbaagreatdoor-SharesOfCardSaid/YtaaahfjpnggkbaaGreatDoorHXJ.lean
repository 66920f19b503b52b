import Derived.Test.YtaaahfjpnggkbaaGreatDoorHBA
import Derived.Test.YtaaahfjpnggkbaaGreatDoorHR
import Derived.Test.YtaaahfjpnggkbaaGreatDoorHXI
set_option linter.unusedSimpArgs false
set_option linter.unusedVariables false
set_option maxRecDepth 100000
set_option maxHeartbeats 20000000
namespace Go.Proofs.YtaaahfjpnggkbaaGreatDoor
open Go.RowKit
section
instance rowHeldJ : RowT Tryz.prog 128 3 := .mk' (by kernel_rfl) (by kernel_rfl)
theorem info_heldTJ : (Tryz.prog.info? 128).map (fun i => (i.zero.map (fun z => z.cells.size), i.size, i.bytes)) = some (some 3, 3, 56) := by kernel_rfl
theorem info_heldPJ : ∃ i z, Tryz.prog.info? 128 = some i ∧ i.zero = some z ∧ z.cells.size = 3 ∧ i.size = 3 ∧ i.bytes = 56 := by
 have h := info_heldTJ
 cases hi : Tryz.prog.info? 128 with
 | none => rw [hi] at h; cases h
 | some i =>
  rw [hi] at h
  simp only [Option.map_some, Option.some.injEq, Prod.mk.injEq] at h
  obtain ⟨h1, h2, h3⟩ := h
  cases hz : i.zero with
  | none => rw [hz] at h1; cases h1
  | some z => rw [hz] at h1; exact ⟨i, z, rfl, hz, by simpa using h1, h2, h3⟩
theorem rowsH_succJ (E : Nat → Ent) (n : Nat) : rowsH E (n + 1) = rowsH E n ++ hrow (E n) := rfl
structure GrHJ where
 a : Option Addr
 cap : Nat
 bl : List (Nat × Obj)
def xJb (x : GrHJ) (n : Nat) (f : Nat → Ent) : Prop := (x = ⟨none, 0, []⟩ ∧ n = 0) ∨
 ∃ g, ∃ cur : List Value, x.a = some ⟨g, 0, none⟩ ∧ x.bl = [(g, .cells cur.toArray 128)] ∧ n ≤ x.cap ∧ x.cap ≤ maxLen ∧ cur.length = x.cap * 3 ∧ cur.take (n * 3) = rowsH f n
theorem held_newJ (e : Ent) (w : World) : (Instr.buildSlice 40 1 #[(0, .agg (hrow e).toArray)]).run Tryz.prog w = .ok (.slice (some ⟨w.heap.size, 0, none⟩) 1 1) (w.alloc (.cells (hrow e).toArray 128)) := by
 unfold hrow
 go_simp
theorem held_buildJ (a : Option Addr) (n c : Nat) (k : Int) (w : World) : (Instr.build 128 #[(0, .slice a n c), (2, .int .i64 k)]).run Tryz.prog w = .ok (.agg [Value.slice a n c, .slice none 0 0, .int .i64 k].toArray) w := by
 kernel_rfl
attribute [local irreducible] Calls Instr.build Instr.buildSlice
theorem xHb {o : Oper} {a : Act} {x : Operand} {e : Ent} (hg : o.guard = none) (hop : o.op = .buildSlice 40 1 #[(0, x)]) (hx : ev a x = some (.agg (hrow e).toArray)) : IsNew Tryz.prog o a (.cells (hrow e).toArray 128) (fun b => .slice (some ⟨b, 0, none⟩) 1 1) :=
 ⟨hg, fun w => by
  unfold execOp
  simp only [hop, List.map_toArray, List.map_cons, List.map_nil, xAw hx, held_newJ, Sem.run_bind, Result.andThen_ok, Sem.run_pure]⟩
section
variable {w w0 : World} {B0 : Nat} {R M : List (Nat × Obj)}
theorem appH_runJ {ty : TypeId} {x : GrHJ} {n : Nat} {f : Nat → Ent} {b : Nat} {v : Ent} (hR : Rep B0 w0 M w) (hp : M.Perm ((b, .cells (hrow v).toArray 128) :: (x.bl ++ R))) (hg : xJb x n f) (hv : f n = v) (hbig : n ≤ 1000000) :
  ∃ (x' : GrHJ) (w' : World), (Builtin.append_ #[40, 40] ty #[.slice x.a n x.cap, .slice (some ⟨b, 0, none⟩) 1 1]).run Tryz.prog w = .ok (.slice x'.a (n + 1 : Nat) x'.cap) w' ∧ xJb x' (n + 1) f ∧ Rep B0 w0 (x'.bl ++ R) w' := by
 subst hv
 replace hR := hR.permN hp
 obtain ⟨i, z, hi, hz, hzs, hsize, hby⟩ := info_heldPJ
 have hnews : ∀ j u, (hrow (f n))[j]? = some u → w.cell? ((⟨b, 0, none⟩ : Addr).add j) = some u := fun j u hj => by
  rw [xBw, Nat.zero_add]
  exact hR.cell (.head _) hj
 have hR0 : Rep B0 w0 (x.bl ++ R) w := hR.dropN
 have hm63 : n + 1 ≤ maxLen := by unfold maxLen; omega
 have hmb : (n + 1) * 56 ≤ 140737488355328 := by omega
 rcases hg with ⟨rfl, rfl⟩ | ⟨g, cur, ha, hbl, h1, h2, h3, h4⟩
 ·obtain ⟨v', w', hr, hO, hgr, hiff, hat⟩ := run_append_own_at (P := Tryz.prog) w B0 40 ty 128 i z 3 56 Tryz.underlying40 hi hz hsize hby hzs (by decide) (.slice none 0 0) 0 [] ⟨by simp, .inl ⟨rfl, rfl⟩⟩ ⟨b, 0, none⟩ 1 1 (hrow (f 0)) rfl hnews (xKl _) hm63 hmb hR.le
  obtain ⟨hl', ⟨hv, _⟩ | ⟨g', cap', cur', rfl, hB, hh, k2, k3, k4, k5⟩⟩ := hO
  ·exact absurd (hiff.1 hv).2 (by decide)
  ·have hR' := hR0.growN hgr (fun r hr => by cases hr)
   have hgg : g' = w.heap.size := by
    rcases hat with hat | hat
    ·cases hat
    ·exact Option.some.inj hat
   have hR2 := hR'.addN hB hh (fun p hp e => by
    have := hR0.lt hp
    omega)
   refine ⟨⟨some ⟨g', 0, none⟩, cap', [(g', .cells cur'.toList.toArray 128)]⟩, w', hr, .inr ⟨g', cur'.toList, rfl, rfl, k2, k3, by simpa using k4, ?_⟩, ?_⟩
   ·rw [k5]; rfl
   ·simpa using hR2
 ·rw [hbl] at hR0
  have hR1 : Rep B0 w0 ((g, .cells cur.toArray 128) :: R) w := hR0
  rw [ha]
  obtain ⟨v', w', hr, hO, hgr, hiff, hat⟩ := run_append_own_at (P := Tryz.prog) w B0 40 ty 128 i z 3 56 Tryz.underlying40 hi hz hsize hby hzs (by decide) (.slice (some ⟨g, 0, none⟩) n x.cap) n (rowsH f n) ⟨by rw [xHq], .inr ⟨g, x.cap, cur.toArray, rfl, (hR1.own _ (.head _)).1, (hR1.own _ (.head _)).2, h1, h2, by simpa using h3, by simpa using h4⟩⟩ ⟨b, 0, none⟩ 1 1 (hrow (f n)) rfl hnews (xKl _) hm63 hmb hR.le
  obtain ⟨hl', ⟨hv, _⟩ | ⟨g', cap', cur', rfl, hB, hh, k2, k3, k4, k5⟩⟩ := hO
  ·exact absurd (hiff.1 hv).2 (by decide)
  ·have hR' := hR1.dropN.growN hgr (fun r hr => by
    obtain rfl : g = r := Option.some.inj hr
    exact ⟨(hR1.own _ (.head _)).1, hR1.apartN⟩)
   have hR2 := hR'.addN hB hh (fun p hp e => by
    rcases hat with hat | hat
    ·have hgg : g' = g := Option.some.inj hat
     exact hR1.apartN p hp (e.trans hgg)
    ·have hgg : g' = w.heap.size := Option.some.inj hat
     have := hR1.lt (.tail _ hp)
     omega)
   refine ⟨⟨some ⟨g', 0, none⟩, cap', [(g', .cells cur'.toList.toArray 128)]⟩, w', hr, .inr ⟨g', cur'.toList, rfl, rfl, k2, k3, by simpa using k4, ?_⟩, ?_⟩
   ·rw [k5, rowsH_succJ]
   ·simpa using hR2
end
section
variable {ops : Array Oper} {B0 : Nat} {w0 : World} {Kp : List (Nat × Obj)} {Q : Exit → Act → World → Prop} {L R0 : List (Nat × Obj)}
theorem f_appHJ {N : Nat} {listed : Array Bool} {a : Act} {i : Nat} {r : List Nat} {oi : Oper} {di : Tmp} {s y : Operand} {x : GrHJ} {n b : Nat} {v : Ent} {f : Nat → Ent} (hoi : ops[i]? = some oi) (hdi : oi.dst = some di) (hg : oi.guard = none)
  (hop : oi.op = .call { callee := .builtin .append, args := #[s, y], argTypes := #[40, 40] }) (hs : ev a s = some (.slice x.a n x.cap)) (hy : ev a y = some (.slice (some ⟨b, 0, none⟩) 1 1)) (hp : L.Perm ((b, .cells (hrow v).toArray 128) :: (x.bl ++ R0))) (hx : xJb x n f) (hv : f n = v) (hbig : n ≤ 1000000) (hk : ∀ p, p ∈ Kp → p ∈ R0)
  (h : ∀ x' : GrHJ, xJb x' (n + 1) f → xDv Tryz.prog ops B0 w0 Kp Q N (listed.setIfInBounds i true) (a.put (some di) (.slice x'.a (n + 1 : Nat) x'.cap)) (R0 ++ x'.bl))
  (hr : xEm Tryz.prog ops B0 w0 Kp Q N listed a L r) : xEm Tryz.prog ops B0 w0 Kp Q N listed a L (i :: r) := by
 rw [← hdi] at h
 refine ⟨⟨oi, hoi, fun v M => ∃ x' : GrHJ, v = .slice x'.a (n + 1 : Nat) x'.cap ∧ xJb x' (n + 1) f ∧ M = R0 ++ x'.bl, .inl ⟨xCd hg _, fun w hw => ?_⟩, fun v M ⟨x', hv, hx, hM⟩ => ?_⟩, hr⟩
 ·obtain ⟨x', w', hrun, hx', hR'⟩ := appH_runJ (ty := oi.type) hw hp hx hv hbig
  have hs := xAw hs
  have hy := xAw hy
  unfold execOp
  simp only [hop, resolve, invoke, builtin, Sem.run_bind, Sem.run_pure, Result.andThen_ok, List.map_toArray, List.map_cons, List.map_nil, hs, hy, hrun]
  exact ⟨_, ⟨x', rfl, hx', rfl⟩, hR'.permN List.perm_append_comm⟩
 ·subst hv hM
  exact ⟨fun p hp => List.mem_append_left _ (hk p hp), h x' hx⟩
end
section
variable {ops : Array Oper} {o : Oper} {a : Act} {B0 : Nat} {w0 : World} {L L' : List (Nat × Obj)}
theorem xCi (hg : o.guard = none) {ty : TypeId} {x y : Operand} (hop : o.op = .store ty x y) {b off : Nat} (hx : ev a x = some (.pointer (some ⟨b, off, none⟩))) (hT : xDp Tryz.prog ty) {l l' : List Value} {v : Value} {t : TypeId}
  (hy : ev a y = some v) (h1 : v.oneCell' = true) (hn : off < l.length) (hl : l.set off v = l') (hs : xBq L b (.cells l.toArray t) (.cells l'.toArray t) L') : xBa Tryz.prog ops o undef a (Rep B0 w0 L) (Rep B0 w0 L') :=
 .inl ⟨xCd hg _, fun w hR => by
  have hx := xAw hx
  have hy := xAw hy
  obtain ⟨w', e, hR'⟩ := hR.storeCell (P := Tryz.prog) (ty := ty) (off := off) h1 hs hn hl
  unfold execOp
  simp only [hop, hx, hy, Instr.storeAt, Instr.sureAddr, Sem.run_bind, Sem.run_pure, Result.andThen_ok, e]
  exact ⟨rfl, hR'⟩⟩
theorem xCa (hg : o.guard = none) {ty : TypeId} {x : Operand} (hop : o.op = .load ty x) {b off : Nat} (hx : ev a x = some (.pointer (some ⟨b, off, none⟩))) (hT : xDp Tryz.prog ty) {l : List Value} {v : Value} {t : TypeId} (hm : (b, Obj.cells l.toArray t) ∈ L) (hv : l[off]? = some v) : xBa Tryz.prog ops o v a (Rep B0 w0 L) (Rep B0 w0 L) :=
 .inl ⟨xCd hg _, fun w hR => by
  have hx := xAw hx
  have e := cell_load (ty := ty) (hR.cell hm hv)
  unfold execOp
  simp only [hop, hx, Instr.loadAt, Instr.sureAddr, Sem.run_bind, Sem.run_pure, Result.andThen_ok, e]
  exact ⟨rfl, hR⟩⟩
end
end
section
def bkJ (u : Value) (N : Int) (s : Value) : List Value := [.int .i64 N, .slice none 0 0, s, .slice none 0 0, u, .slice none 0 0, .slice none 0 0, .slice none 0 0, .slice none 0 0, .slice none 0 0, .slice none 0 0, .slice none 0 0, .slice none 0 0, .slice none 0 0, .slice none 0 0, .slice none 0 0, .slice none 0 0, .slice none 0 0]
theorem bk_nJ {u : Value} (N : Int) (s : Value) : (bkJ u N s)[0]? = some (.int .i64 N) := rfl
theorem bk_sJ {u : Value} (N : Int) (s : Value) : (bkJ u N s)[2]? = some s := rfl
theorem bk_setnJ {u : Value} (N M : Int) (s : Value) : (bkJ u N s).set 0 (.int .i64 M) = bkJ u M s := rfl
theorem bk_setsJ {u : Value} (N : Int) (s t : Value) : (bkJ u N s).set 2 t = bkJ u N t := rfl
theorem bk_lenJ {u : Value} (N : Int) (s : Value) : (bkJ u N s).length = 18 := rfl
attribute [local irreducible] Calls Instr.build Instr.buildSlice
section
variable {B0 : Nat} {w0 w : World} {R : List (Nat × Obj)} {bb : Nat} {u : Value} {E : Nat → Ent}
theorem keep_numJ {x : GrHJ} {m N n c : Nat} {a : Option Addr} (hx : xJb x m E) (hm : m ≤ 1000) (hN : N ≤ 1000) (hE : E m = ⟨a, n, c, none, 0, 0, N + 1⟩) (hR : Rep B0 w0 ((bb, .cells (bkJ u N (.slice x.a m x.cap)).toArray 57) :: (x.bl ++ R)) w) :
  Calls Tryz.prog 122 #[.pointer (some ⟨bb, 0, none⟩), .slice a n c] w fun e w' => e = .returned (.tuple #[]) ∧ ∃ x' : GrHJ, xJb x' (m + 1) E ∧ Rep B0 w0 ((bb, .cells (bkJ u ((N + 1 : Nat) : Int) (.slice x'.a (m + 1 : Nat) x'.cap)).toArray 57) :: (R ++ x'.bl)) w' := by
 have t0 := bk_nJ (u := u) N (.slice x.a m x.cap)
 have s0 := bk_setnJ (u := u) N ((N + 1 : Nat) : Int) (.slice x.a m x.cap)
 have t1 := bk_nJ (u := u) ((N + 1 : Nat) : Int) (.slice x.a m x.cap)
 have t4 := bk_sJ (u := u) ((N + 1 : Nat) : Int) (.slice x.a m x.cap)
 have tl0 : 0 < (bkJ u N (.slice x.a m x.cap)).length := by rw [bk_lenJ (u := u)]; decide
 have ew : IntKind.i64.wrap ((N : Int) + 1) = ((N + 1 : Nat) : Int) := by rw [IntKind.wrap_i64]; omega
 have hb := fun w => held_buildJ a n c ((N + 1 : Nat) : Int) w
 have hrw : [Value.slice a n c, .slice none 0 0, .int .i64 ((N + 1 : Nat) : Int)] = hrow (E m) := by rw [hE]; rfl
 rw [hrw] at hb
 replace hx := Held.mk hx
 clear hE hrw
 go_enter Tryz.func122, Tryz.ntmps122
 go_wp2_with (first | (refine' aMq hR ?_) | (refine' aHq hR ?_; clear hR; intro w hR))
 try simp only [Act.put, kA, kB, List.setIfInBounds_toArray]
 refine xBl hR 16 xBd rfl ?_
 clear hR
 refine xCo [] [1, 1, 1, 1, 2, 1, 1, 1, 1, 2, 2, 2, 2, 2, 2, 2] 8 rfl (by repeat (exact xAu)) (by repeat (exact xAu)) rfl (by decide +kernel) (fun K hK => ?_)
 repeat ((first | (refine xAp ?_) | (refine' xAj (by decide) rfl (.inl rfl) rfl ?ha ?_) | ((refine' xAl (by decide) rfl rfl rfl (fun w => ?hq) ?ha ?_); (case hq => go_simp; try rfl)) | (refine' xAz (by decide) rfl rfl rfl ?ha ?_)); try (case ha => simp only [kP, kQ, kA, kB]; try rfl))
 refine xAo (hK _ _ ?_)
 clear hK K
 refine f_at [4, 9] (by decide +kernel) rfl ?_
 refine f_is 4 ?_
 refine f_y rfl rfl (xCa rfl rfl rfl inferInstance (.head _) t4) (fun p hp => nomatch hp) ?pA ?pB
 case' pA =>
  try simp only [Act.put, kA, kB, List.setIfInBounds_toArray]
  refine f_at [9] (by decide +kernel) rfl ?_
  refine f_is 9 ?_
  refine f_y rfl rfl (xCa rfl rfl rfl inferInstance (.head _) t1) (fun p hp => nomatch hp) ?_ xCl
  try simp only [Act.put, kA, kB, List.setIfInBounds_toArray]
  refine xCo [] [2, 2, 2, 2, 2, 2, 2, 2, 2, 2, 1, 2, 2, 2, 2, 2] 5 rfl (by repeat (exact xAu)) (by repeat (exact xAu)) rfl (by decide +kernel) (fun K hK => ?_)
  repeat ((first | (refine' xCr (by decide) rfl rfl (fun w => ?hq) ?ha ?_; (case hq => simp only [List.map_toArray, List.map_cons, List.map_nil]; exact hb _)) | (refine xAp ?_)); try (case ha => simp only [kP, kQ, kA, kB]; try rfl))
  refine xAo (hK _ _ ?_)
  clear hK K
  refine f_at [11] (by decide +kernel) rfl ?_
  refine f_is 11 ?_
  refine f_new rfl rfl (xHb rfl rfl rfl) (fun p hp => nomatch hp) (fun bs => ?_) xCl
  try simp only [Act.put, kA, kB, List.setIfInBounds_toArray]
  refine f_at [12] (by decide +kernel) rfl ?_
  refine f_is 12 ?_
  refine f_appHJ (x := x) (n := m) (f := E) (b := bs) (v := E m) (R0 := (bb, .cells (bkJ u ((N + 1 : Nat) : Int) (.slice x.a m x.cap)).toArray 57) :: R) rfl rfl rfl rfl rfl rfl (List.Perm.cons _ List.perm_middle.symm) hx.out rfl (by omega) (fun p hp => nomatch hp) (fun x' hx' => ?_) xCl
  try simp only [Act.put, kA, kB, List.setIfInBounds_toArray]
  have s4 := bk_setsJ (u := u) ((N + 1 : Nat) : Int) (.slice x.a m x.cap) (.slice x'.a (m + 1 : Nat) x'.cap)
  have tl4 : 2 < (bkJ u ((N + 1 : Nat) : Int) (.slice x.a m x.cap)).length := by rw [bk_lenJ (u := u)]; decide
  refine xCo [] [2, 2, 2, 2, 2, 2, 2, 2, 2, 2, 2, 2, 2, 1, 1, 2] 1 rfl (by repeat (exact xAu)) (by repeat (exact xAu)) rfl (by decide +kernel) (fun K hK => ?_)
  repeat ((first | (refine xAp ?_) | ((refine' xAl (by decide) rfl rfl rfl (fun w => ?hq) ?ha ?_); (case hq => go_simp; try rfl)) | (refine' xAz (by decide) rfl rfl rfl ?ha ?_)); try (case ha => simp only [kP, kQ, kA, kB]; try rfl))
  refine xAo (hK _ _ ?_)
  clear hK K
  refine f_at [15] (by decide +kernel) rfl ?_
  refine f_is 15 ?_
  refine f_s rfl rfl (xCi rfl rfl rfl inferInstance rfl rfl tl4 s4 xBq.head) (fun p hp => nomatch hp) ?_ xCl
  refine f_end (by decide +kernel) (fun w hR => ?_)
  go_end0
  exact ⟨rfl, x', hx', hR⟩
 case' pB =>
  refine f_is 9 ?_
  refine f_y rfl rfl (xCa rfl rfl rfl inferInstance (.head _) t1) (fun p hp => nomatch hp) ?_ xCl
  try simp only [Act.put, kA, kB, List.setIfInBounds_toArray]
  refine xCo [] [2, 2, 2, 2, 2, 2, 2, 2, 2, 2, 1, 2, 2, 2, 2, 2] 6 rfl (by repeat (exact xAu)) (by repeat (exact xAu)) rfl (by decide +kernel) (fun K hK => ?_)
  repeat ((first | (refine' xCr (by decide) rfl rfl (fun w => ?hq) ?ha ?_; (case hq => simp only [List.map_toArray, List.map_cons, List.map_nil]; exact hb _)) | (refine xAp ?_)); try (case ha => simp only [kP, kQ, kA, kB]; try rfl))
  refine xAo (hK _ _ ?_)
  clear hK K
  refine f_at [4, 11] (by decide +kernel) rfl ?_
  refine f_is 4 ?_
  refine f_y rfl rfl (xCa rfl rfl rfl inferInstance (.head _) t4) (fun p hp => nomatch hp) ?qA ?qB
  case' qA =>
   try simp only [Act.put, kA, kB, List.setIfInBounds_toArray]
   refine f_at [11] (by decide +kernel) rfl ?_
   refine f_is 11 ?_
   refine f_new rfl rfl (xHb rfl rfl rfl) (fun p hp => nomatch hp) (fun bs => ?_) xCl
   try simp only [Act.put, kA, kB, List.setIfInBounds_toArray]
   refine f_at [12] (by decide +kernel) rfl ?_
   refine f_is 12 ?_
   refine f_appHJ (x := x) (n := m) (f := E) (b := bs) (v := E m) (R0 := (bb, .cells (bkJ u ((N + 1 : Nat) : Int) (.slice x.a m x.cap)).toArray 57) :: R) rfl rfl rfl rfl rfl rfl (List.Perm.cons _ List.perm_middle.symm) hx.out rfl (by omega) (fun p hp => nomatch hp) (fun x' hx' => ?_) xCl
   try simp only [Act.put, kA, kB, List.setIfInBounds_toArray]
   have s4 := bk_setsJ (u := u) ((N + 1 : Nat) : Int) (.slice x.a m x.cap) (.slice x'.a (m + 1 : Nat) x'.cap)
   have tl4 : 2 < (bkJ u ((N + 1 : Nat) : Int) (.slice x.a m x.cap)).length := by rw [bk_lenJ (u := u)]; decide
   refine xCo [] [2, 2, 2, 2, 2, 2, 2, 2, 2, 2, 2, 2, 2, 1, 1, 2] 1 rfl (by repeat (exact xAu)) (by repeat (exact xAu)) rfl (by decide +kernel) (fun K hK => ?_)
   repeat ((first | (refine xAp ?_) | ((refine' xAl (by decide) rfl rfl rfl (fun w => ?hq) ?ha ?_); (case hq => go_simp; try rfl)) | (refine' xAz (by decide) rfl rfl rfl ?ha ?_)); try (case ha => simp only [kP, kQ, kA, kB]; try rfl))
   refine xAo (hK _ _ ?_)
   clear hK K
   refine f_at [15] (by decide +kernel) rfl ?_
   refine f_is 15 ?_
   refine f_s rfl rfl (xCi rfl rfl rfl inferInstance rfl rfl tl4 s4 xBq.head) (fun p hp => nomatch hp) ?_ xCl
   refine f_end (by decide +kernel) (fun w hR => ?_)
   go_end0
   exact ⟨rfl, x', hx', hR⟩
  case' qB =>
   refine f_is 11 ?_
   refine f_new rfl rfl (xHb rfl rfl rfl) (fun p hp => nomatch hp) (fun bs => ?_) xCl
   try simp only [Act.put, kA, kB, List.setIfInBounds_toArray]
   refine f_at [4] (by decide +kernel) rfl ?_
   refine f_is 4 ?_
   refine f_y rfl rfl (xCa rfl rfl rfl inferInstance (.tail _ (.head _)) t4) (fun p hp => nomatch hp) ?_ xCl
   try simp only [Act.put, kA, kB, List.setIfInBounds_toArray]
   refine f_at [12] (by decide +kernel) rfl ?_
   refine f_is 12 ?_
   refine f_appHJ (x := x) (n := m) (f := E) (b := bs) (v := E m) (R0 := (bb, .cells (bkJ u ((N + 1 : Nat) : Int) (.slice x.a m x.cap)).toArray 57) :: R) rfl rfl rfl rfl rfl rfl (List.Perm.cons _ List.perm_middle.symm) hx.out rfl (by omega) (fun p hp => nomatch hp) (fun x' hx' => ?_) xCl
   try simp only [Act.put, kA, kB, List.setIfInBounds_toArray]
   have s4 := bk_setsJ (u := u) ((N + 1 : Nat) : Int) (.slice x.a m x.cap) (.slice x'.a (m + 1 : Nat) x'.cap)
   have tl4 : 2 < (bkJ u ((N + 1 : Nat) : Int) (.slice x.a m x.cap)).length := by rw [bk_lenJ (u := u)]; decide
   refine xCo [] [2, 2, 2, 2, 2, 2, 2, 2, 2, 2, 2, 2, 2, 1, 1, 2] 1 rfl (by repeat (exact xAu)) (by repeat (exact xAu)) rfl (by decide +kernel) (fun K hK => ?_)
   repeat ((first | (refine xAp ?_) | ((refine' xAl (by decide) rfl rfl rfl (fun w => ?hq) ?ha ?_); (case hq => go_simp; try rfl)) | (refine' xAz (by decide) rfl rfl rfl ?ha ?_)); try (case ha => simp only [kP, kQ, kA, kB]; try rfl))
   refine xAo (hK _ _ ?_)
   clear hK K
   refine f_at [15] (by decide +kernel) rfl ?_
   refine f_is 15 ?_
   refine f_s rfl rfl (xCi rfl rfl rfl inferInstance rfl rfl tl4 s4 xBq.head) (fun p hp => nomatch hp) ?_ xCl
   refine f_end (by decide +kernel) (fun w hR => ?_)
   go_end0
   exact ⟨rfl, x', hx', hR⟩
end
end
section
attribute [local irreducible] Calls Instr.build Instr.buildSlice
theorem mark_int (v : Nat) (hv : v ≤ 1000000) (w : World) : Calls Tryz.prog 135 #[.int .i64 (v : Int)] w fun e w' => e = .returned (.int .i64 (-(v : Int))) ∧ Below w.heap.size w w' := by
 have hR := Rep.init w
 have e0 : IntKind.i64.wrap (-(v : Int)) = -(v : Int) := by rw [IntKind.wrap_i64]; omega
 go_enter Tryz.func135, Tryz.ntmps135
 go_wp2_with (first | (refine' aAq hR ?_; clear hR; intro blk w hR) | (refine' aBq hR ?_; clear hR; intro blk w hR) | (refine' aNq hR ?_) | (refine' aPq hR ?_) | (refine' aMq hR ?_) | (refine' aFq hR ?_; clear hR; intro w hR) | (refine' aHq hR ?_; clear hR; intro w hR) | fail)
 go_ret
 exact ⟨rfl, hR.below⟩
theorem is_int (v : Nat) (hv : v ≤ 1000000) (w : World) : Calls Tryz.prog 152 #[.int .i64 (-(v : Int)), .int .i64 (v : Int)] w fun e w' => e = .returned (.bool true) ∧ Below w.heap.size w w' := by
 have hR := Rep.init w
 have e0 : IntKind.i64.wrap (-(v : Int)) = -(v : Int) := by rw [IntKind.wrap_i64]; omega
 go_enter Tryz.func152, Tryz.ntmps152
 go_wp2_with (first | (refine' aAq hR ?_; clear hR; intro blk w hR) | (refine' aBq hR ?_; clear hR; intro blk w hR) | (refine' aNq hR ?_) | (refine' aPq hR ?_) | (refine' aMq hR ?_) | (refine' aFq hR ?_; clear hR; intro w hR) | (refine' aHq hR ?_; clear hR; intro w hR) | fail)
 go_ret
 exact ⟨rfl, hR.below⟩
end
section
instance cellIntsJ : xDp Tryz.prog 67 := .mk' (by kernel_rfl) (by kernel_rfl)
theorem one_int (v : Int) : ∀ u ∈ [Value.int .i64 v], u.oneCell' = true := fun u hu => by rw [List.mem_singleton.1 hu]; rfl
theorem xFp {f g : Nat → Int} {n : Nat} (h : ∀ j, j < n → f j = g j) : xHn f n = xHn g n := by
 unfold xHn
 refine List.map_congr_left fun j hj => ?_
 rw [h j (List.mem_range.1 hj)]
theorem rowsI_take (f : Nat → Int) (n k : Nat) : (xHn f (n + k)).take n = xHn f n := by
 unfold xHn
 rw [← List.map_take, List.take_range, Nat.min_eq_left (Nat.le_add_right _ _)]
theorem IOwn.less {cap n k : Nat} {cur : List Value} {f : Nat → Int} (h : IOwn cap cur (n + k) f) : IOwn cap cur n f :=
 ⟨by have := h.le; omega, h.big, h.len, by
  rw [← rowsI_take f n k, ← h.is, List.take_take, Nat.min_eq_left (by omega)]⟩
theorem IOwn.put {cap n k : Nat} {v : Int} {cur : List Value} {f : Nat → Int} (h : IOwn cap cur n f) (hk : k < n) : IOwn cap (cur.set k (.int .i64 v)) n (fun j => if j = k then v else f j) := by
 refine ⟨h.le, h.big, by rw [List.length_set]; exact h.len, ?_⟩
 refine List.ext_getElem? fun j => ?_
 rw [List.getElem?_take]
 have h1 := h.le
 have h2 := h.len
 by_cases hj : j < n
 ·rw [if_pos hj, List.getElem?_set, rowsI_at _ hj]
  by_cases hjk : k = j
  ·subst hjk
   rw [if_pos rfl, if_pos (by omega), if_pos rfl]
  ·rw [if_neg hjk, if_neg (fun h => hjk h.symm), h.cell hj]
 ·rw [if_neg hj]
  symm
  exact List.getElem?_eq_none (by rw [xDd]; omega)
theorem IOwn.grn {g cap : Nat} {cur : List Value} {n : Nat} {f : Nat → Int} (h : IOwn cap cur n f) : GrIOk ⟨some ⟨g, 0, none⟩, cap, [(g, .cells cur.toArray 3)]⟩ n f := .inr ⟨g, cur, rfl, rfl, h.le, h.big, h.len, h.is⟩
theorem grI_iat {B0 : Nat} {w0 : World} {L : List (Nat × Obj)} {X : GrI} {m : Nat} {F : Nat → Int} (h : GrIOk X m F) (hL : ∀ p, p ∈ X.bl → p ∈ L) : IAt B0 w0 L X.a m X.cap F :=
 ⟨(grI_cap h).1, (grI_cap h).2, fun hm => by
  obtain ⟨g, cur, ha, hb, ho⟩ := grI_own h hm
  rw [ha]
  exact (ho.at (B0 := B0) (w0 := w0) (g := g) (hL _ (by rw [hb]; exact .head _)) (Nat.le_refl _)).at' hm⟩
attribute [local irreducible] Calls Instr.build Instr.buildSlice
section
variable {w w0 : World} {B0 : Nat} {R M : List (Nat × Obj)}
theorem xJx {ty : TypeId} {x : GrI} {n : Nat} {f : Nat → Int} {b : Nat} {v : Int} (hR : Rep B0 w0 M w) (hp : M.Perm ((b, .cells [Value.int .i64 v].toArray 3) :: (x.bl ++ R))) (hg : GrIOk x n f) (hv : f n = v) (hbig : n ≤ 1000000) :
  ∃ (x' : GrI) (w' : World), (Builtin.append_ #[67, 67] ty #[.slice x.a n x.cap, .slice (some ⟨b, 0, none⟩) 1 1]).run Tryz.prog w = .ok (.slice x'.a (n + 1 : Nat) x'.cap) w' ∧ GrIOk x' (n + 1) f ∧ Rep B0 w0 (x'.bl ++ R) w' := by
 subst hv
 replace hR := hR.permN hp
 obtain ⟨i, z, hi, hz, hzs, hsize, hby⟩ := xGg
 have hnews : ∀ j u, [Value.int .i64 (f n)][j]? = some u → w.cell? ((⟨b, 0, none⟩ : Addr).add j) = some u := fun j u hj => by
  rw [xBw, Nat.zero_add]
  exact hR.cell (.head _) hj
 have hR0 : Rep B0 w0 (x.bl ++ R) w := hR.dropN
 have hm63 : n + 1 ≤ maxLen := by unfold maxLen; omega
 have hmb : (n + 1) * 8 ≤ 140737488355328 := by omega
 rcases hg with ⟨rfl, rfl⟩ | ⟨g, cur, ha, hbl, h1, h2, h3, h4⟩
 ·obtain ⟨v', w', hr, hO, hgr, hiff, hat⟩ := run_append_own_at (P := Tryz.prog) w B0 67 ty 3 i z 1 8 Tryz.underlying67 hi hz hsize hby hzs (by decide) (.slice none 0 0) 0 [] ⟨by simp, .inl ⟨rfl, rfl⟩⟩ ⟨b, 0, none⟩ 1 1 [Value.int .i64 (f 0)] rfl hnews (one_int _) hm63 hmb hR.le
  obtain ⟨hl', ⟨hv, _⟩ | ⟨g', cap', cur', rfl, hB, hh, k2, k3, k4, k5⟩⟩ := hO
  ·exact absurd (hiff.1 hv).2 (by decide)
  ·have hR' := hR0.growN hgr (fun r hr => by cases hr)
   have hgg : g' = w.heap.size := by
    rcases hat with hat | hat
    ·cases hat
    ·exact Option.some.inj hat
   have hR2 := hR'.addN hB hh (fun p hp e => by
    have := hR0.lt hp
    omega)
   refine ⟨⟨some ⟨g', 0, none⟩, cap', [(g', .cells cur'.toList.toArray 3)]⟩, w', hr, .inr ⟨g', cur'.toList, rfl, rfl, k2, k3, by simpa using k4, ?_⟩, ?_⟩
   ·simpa [xHn] using k5
   ·simpa using hR2
 ·rw [hbl] at hR0
  have hR1 : Rep B0 w0 ((g, .cells cur.toArray 3) :: R) w := hR0
  rw [ha]
  obtain ⟨v', w', hr, hO, hgr, hiff, hat⟩ := run_append_own_at (P := Tryz.prog) w B0 67 ty 3 i z 1 8 Tryz.underlying67 hi hz hsize hby hzs (by decide) (.slice (some ⟨g, 0, none⟩) n x.cap) n (xHn f n) ⟨by rw [xDd]; omega, .inr ⟨g, x.cap, cur.toArray, rfl, (hR1.own _ (.head _)).1, (hR1.own _ (.head _)).2, h1, h2, by simpa using h3, by simpa using h4⟩⟩ ⟨b, 0, none⟩ 1 1 [Value.int .i64 (f n)] rfl hnews (one_int _) hm63 hmb hR.le
  obtain ⟨hl', ⟨hv, _⟩ | ⟨g', cap', cur', rfl, hB, hh, k2, k3, k4, k5⟩⟩ := hO
  ·exact absurd (hiff.1 hv).2 (by decide)
  ·have hR' := hR1.dropN.growN hgr (fun r hr => by
    obtain rfl : g = r := Option.some.inj hr
    exact ⟨(hR1.own _ (.head _)).1, hR1.apartN⟩)
   have hR2 := hR'.addN hB hh (fun p hp e => by
    rcases hat with hat | hat
    ·have hgg : g' = g := Option.some.inj hat
     exact hR1.apartN p hp (e.trans hgg)
    ·have hgg : g' = w.heap.size := Option.some.inj hat
     have := hR1.lt (.tail _ hp)
     omega)
   refine ⟨⟨some ⟨g', 0, none⟩, cap', [(g', .cells cur'.toList.toArray 3)]⟩, w', hr, .inr ⟨g', cur'.toList, rfl, rfl, k2, k3, by simpa using k4, ?_⟩, ?_⟩
   ·rw [xIg, ← k5]; simp
   ·simpa using hR2
end
end
end Go.Proofs.YtaaahfjpnggkbaaGreatDoor
