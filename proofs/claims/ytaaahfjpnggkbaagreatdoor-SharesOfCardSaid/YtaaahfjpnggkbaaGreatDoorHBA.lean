import Derived.Test.YtaaahfjpnggkbaaGreatDoorHZ
import Derived.Test.YtaaahfjpnggkbaaGreatDoorHBookE
import Derived.Test.YtaaahfjpnggkbaaGreatDoorHR
import Derived.Test.YtaaahfjpnggkbaaGreatDoorHE
set_option linter.unusedSimpArgs false
set_option linter.unusedVariables false
set_option maxRecDepth 100000
set_option maxHeartbeats 20000000
namespace Go.Proofs.YtaaahfjpnggkbaaGreatDoor
open Go.RowKit
section
structure Ent where
 a : Option Addr
 n : Nat
 cap : Nat
 la : Option Addr
 ln : Nat
 lc : Nat
 k : Nat
def hrow (e : Ent) : List Value := [.slice e.a e.n e.cap, .slice e.la e.ln e.lc, .int .i64 (e.k : Int)]
theorem hrow_len (e : Ent) : (hrow e).length = 3 := rfl
theorem xKl (e : Ent) : ∀ u ∈ hrow e, u.oneCell' = true := fun u hu => by
 simp only [hrow, List.mem_cons, List.not_mem_nil, or_false] at hu
 rcases hu with rfl | rfl | rfl <;> rfl
def rowsH (E : Nat → Ent) : Nat → List Value
 | 0 => []
 | n + 1 => rowsH E n ++ hrow (E n)
theorem xHq (E : Nat → Ent) : ∀ n, (rowsH E n).length = n * 3
  | 0 => rfl
  | n + 1 => by
    show (rowsH E n ++ hrow (E n)).length = _
    rw [List.length_append, xHq E n, hrow_len]
    omega
theorem rowsH_at (E : Nat → Ent) : ∀ n j, j < n → ((rowsH E n).drop (j * 3)).take 3 = hrow (E j)
  | 0, j, hj => absurd hj (Nat.not_lt_zero j)
  | n + 1, j, hj => by
    have hl := xHq E n
    show ((rowsH E n ++ hrow (E n)).drop (j * 3)).take 3 = hrow (E j)
    by_cases hjn : j < n
    · rw [List.drop_append_of_le_length (by rw [hl]; omega), List.take_append_of_le_length (by rw [List.length_drop, hl]; omega)]
      exact rowsH_at E n j hjn
    · obtain rfl : j = n := by omega
      rw [← hl, List.drop_left, List.take_of_length_le (by rw [hrow_len]; exact Nat.le_refl _)]
def xBt (F : Nat → List (Nat × Obj)) : Nat → List (Nat × Obj)
 | 0 => []
 | m + 1 => xBt F m ++ F m
theorem xCb {F G : Nat → List (Nat × Obj)} : ∀ m, (∀ j, j < m → F j = G j) → xBt F m = xBt G m
 | 0, _ => rfl
 | m + 1, h => by rw [xBt, xBt, xCb m (fun j hj => h j (by omega)), h m (by omega)]
theorem xFg {F : Nat → List (Nat × Obj)} {i : Nat} : ∀ m, i < m → (xBt F m).Perm (F i ++ xBt (fun j => if j = i then [] else F j) m)
  | 0, hi => absurd hi (Nat.not_lt_zero i)
  | m + 1, hi => by
    rw [xBt, xBt]
    by_cases him : i < m
    · rw [if_neg (by omega : ¬ m = i), ← List.append_assoc]
      exact (xFg m him).append_right _
    · obtain rfl : i = m := by omega
      rw [if_pos rfl, List.append_nil, xCb (G := F) i (fun j hj => if_neg (by omega))]
      exact List.perm_append_comm
instance rowHeld : RowT Tryz.prog 122 3 := .mk' (by kernel_rfl) (by kernel_rfl)
instance rowBook : RowT Tryz.prog 57 18 := .mk' (by kernel_rfl) (by kernel_rfl)
theorem mark_build (N : Nat) (hN : N < 18446744073709551616) (w : World) : (Instr.build 24 #[(0, .int .u64 (N : Int))]).run Tryz.prog w = .ok (.agg (nl N).toArray) w := by
 have e : nl N = [.int .u64 (N : Int), .int .u64 0, .int .u64 0, .int .u64 0] := by
  have h0 : wd N 0 = (N : Int) := by rw [xDe, Nat.pow_zero, Nat.div_one, Nat.mod_eq_of_lt hN]
  have h1 : ∀ j, wd N (j + 1) = 0 := fun j => by
   have : N / 18446744073709551616 ^ (j + 1) = 0 := by
    rw [Nat.pow_succ, Nat.mul_comm, ← Nat.div_div_eq_div_mul, Nat.div_eq_of_lt hN, Nat.zero_div]
   rw [xDe, this]
   rfl
  unfold nl
  rw [h0, h1 0, h1 1, h1 2]
 have h : (Instr.build 24 #[(0, .int .u64 (N : Int))]).run Tryz.prog w = .ok (.agg [Value.int .u64 (N : Int), .int .u64 0, .int .u64 0, .int .u64 0].toArray) w := by
  clear e hN
  generalize (N : Int) = M
  kernel_rfl
 rw [e]
 exact h
end
section
theorem info_heldT : (Tryz.prog.info? 122).map (fun i => (i.zero.map (fun z => z.cells.size), i.size, i.bytes)) = some (some 3, 3, 56) := by kernel_rfl
theorem info_heldP : ∃ i z, Tryz.prog.info? 122 = some i ∧ i.zero = some z ∧ z.cells.size = 3 ∧ i.size = 3 ∧ i.bytes = 56 := by
 have h := info_heldT
 cases hi : Tryz.prog.info? 122 with
 | none => rw [hi] at h; cases h
 | some i =>
  rw [hi] at h
  simp only [Option.map_some, Option.some.injEq, Prod.mk.injEq] at h
  obtain ⟨h1, h2, h3⟩ := h
  cases hz : i.zero with
  | none => rw [hz] at h1; cases h1
  | some z => rw [hz] at h1; exact ⟨i, z, rfl, hz, by simpa using h1, h2, h3⟩
theorem rowsH_succ (E : Nat → Ent) (n : Nat) : rowsH E (n + 1) = rowsH E n ++ hrow (E n) := rfl
structure GrH where
 a : Option Addr
 cap : Nat
 bl : List (Nat × Obj)
def GrHOk (x : GrH) (n : Nat) (f : Nat → Ent) : Prop := (x = ⟨none, 0, []⟩ ∧ n = 0) ∨
 ∃ g, ∃ cur : List Value, x.a = some ⟨g, 0, none⟩ ∧ x.bl = [(g, .cells cur.toArray 122)] ∧ n ≤ x.cap ∧ x.cap ≤ maxLen ∧ cur.length = x.cap * 3 ∧ cur.take (n * 3) = rowsH f n
theorem held_new (e : Ent) (w : World) : (Instr.buildSlice 42 1 #[(0, .agg (hrow e).toArray)]).run Tryz.prog w = .ok (.slice (some ⟨w.heap.size, 0, none⟩) 1 1) (w.alloc (.cells (hrow e).toArray 122)) := by
 unfold hrow
 go_simp
theorem held_build (a : Option Addr) (n c : Nat) (k : Int) (w : World) : (Instr.build 122 #[(0, .slice a n c), (2, .int .i64 k)]).run Tryz.prog w = .ok (.agg [Value.slice a n c, .slice none 0 0, .int .i64 k].toArray) w := by
 kernel_rfl
attribute [local irreducible] Calls Instr.build Instr.buildSlice
theorem xIc {o : Oper} {a : Act} {x : Operand} {e : Ent} (hg : o.guard = none) (hop : o.op = .buildSlice 42 1 #[(0, x)]) (hx : ev a x = some (.agg (hrow e).toArray)) : IsNew Tryz.prog o a (.cells (hrow e).toArray 122) (fun b => .slice (some ⟨b, 0, none⟩) 1 1) :=
 ⟨hg, fun w => by
  unfold execOp
  simp only [hop, List.map_toArray, List.map_cons, List.map_nil, xAw hx, held_new, Sem.run_bind, Result.andThen_ok, Sem.run_pure]⟩
section
variable {w w0 : World} {B0 : Nat} {R M : List (Nat × Obj)}
theorem appH_run {ty : TypeId} {x : GrH} {n : Nat} {f : Nat → Ent} {b : Nat} {v : Ent} (hR : Rep B0 w0 M w) (hp : M.Perm ((b, .cells (hrow v).toArray 122) :: (x.bl ++ R))) (hg : GrHOk x n f) (hv : f n = v) (hbig : n ≤ 1000000) :
  ∃ (x' : GrH) (w' : World), (Builtin.append_ #[42, 42] ty #[.slice x.a n x.cap, .slice (some ⟨b, 0, none⟩) 1 1]).run Tryz.prog w = .ok (.slice x'.a (n + 1 : Nat) x'.cap) w' ∧ GrHOk x' (n + 1) f ∧ Rep B0 w0 (x'.bl ++ R) w' := by
 subst hv
 replace hR := hR.permN hp
 obtain ⟨i, z, hi, hz, hzs, hsize, hby⟩ := info_heldP
 have hnews : ∀ j u, (hrow (f n))[j]? = some u → w.cell? ((⟨b, 0, none⟩ : Addr).add j) = some u := fun j u hj => by
  rw [xBw, Nat.zero_add]
  exact hR.cell (.head _) hj
 have hR0 : Rep B0 w0 (x.bl ++ R) w := hR.dropN
 have hm63 : n + 1 ≤ maxLen := by unfold maxLen; omega
 have hmb : (n + 1) * 56 ≤ 140737488355328 := by omega
 rcases hg with ⟨rfl, rfl⟩ | ⟨g, cur, ha, hbl, h1, h2, h3, h4⟩
 ·obtain ⟨v', w', hr, hO, hgr, hiff, hat⟩ := run_append_own_at (P := Tryz.prog) w B0 42 ty 122 i z 3 56 Tryz.underlying42 hi hz hsize hby hzs (by decide) (.slice none 0 0) 0 [] ⟨by simp, .inl ⟨rfl, rfl⟩⟩ ⟨b, 0, none⟩ 1 1 (hrow (f 0)) rfl hnews (xKl _) hm63 hmb hR.le
  obtain ⟨hl', ⟨hv, _⟩ | ⟨g', cap', cur', rfl, hB, hh, k2, k3, k4, k5⟩⟩ := hO
  ·exact absurd (hiff.1 hv).2 (by decide)
  ·have hR' := hR0.growN hgr (fun r hr => by cases hr)
   have hgg : g' = w.heap.size := by
    rcases hat with hat | hat
    ·cases hat
    ·exact Option.some.inj hat
   have hR2 := hR'.addN hB hh (fun p hp e => by
    have := hR0.lt hp
    omega)
   refine ⟨⟨some ⟨g', 0, none⟩, cap', [(g', .cells cur'.toList.toArray 122)]⟩, w', hr, .inr ⟨g', cur'.toList, rfl, rfl, k2, k3, by simpa using k4, ?_⟩, ?_⟩
   ·rw [k5]; rfl
   ·simpa using hR2
 ·rw [hbl] at hR0
  have hR1 : Rep B0 w0 ((g, .cells cur.toArray 122) :: R) w := hR0
  rw [ha]
  obtain ⟨v', w', hr, hO, hgr, hiff, hat⟩ := run_append_own_at (P := Tryz.prog) w B0 42 ty 122 i z 3 56 Tryz.underlying42 hi hz hsize hby hzs (by decide) (.slice (some ⟨g, 0, none⟩) n x.cap) n (rowsH f n) ⟨by rw [xHq], .inr ⟨g, x.cap, cur.toArray, rfl, (hR1.own _ (.head _)).1, (hR1.own _ (.head _)).2, h1, h2, by simpa using h3, by simpa using h4⟩⟩ ⟨b, 0, none⟩ 1 1 (hrow (f n)) rfl hnews (xKl _) hm63 hmb hR.le
  obtain ⟨hl', ⟨hv, _⟩ | ⟨g', cap', cur', rfl, hB, hh, k2, k3, k4, k5⟩⟩ := hO
  ·exact absurd (hiff.1 hv).2 (by decide)
  ·have hR' := hR1.dropN.growN hgr (fun r hr => by
    obtain rfl : g = r := Option.some.inj hr
    exact ⟨(hR1.own _ (.head _)).1, hR1.apartN⟩)
   have hR2 := hR'.addN hB hh (fun p hp e => by
    rcases hat with hat | hat
    ·have hgg : g' = g := Option.some.inj hat
     exact hR1.apartN p hp (e.trans hgg)
    ·have hgg : g' = w.heap.size := Option.some.inj hat
     have := hR1.lt (.tail _ hp)
     omega)
   refine ⟨⟨some ⟨g', 0, none⟩, cap', [(g', .cells cur'.toList.toArray 122)]⟩, w', hr, .inr ⟨g', cur'.toList, rfl, rfl, k2, k3, by simpa using k4, ?_⟩, ?_⟩
   ·rw [k5, rowsH_succ]
   ·simpa using hR2
end
section
variable {ops : Array Oper} {B0 : Nat} {w0 : World} {Kp : List (Nat × Obj)} {Q : Exit → Act → World → Prop} {L R0 : List (Nat × Obj)}
theorem f_appH {N : Nat} {listed : Array Bool} {a : Act} {i : Nat} {r : List Nat} {oi : Oper} {di : Tmp} {s y : Operand} {x : GrH} {n b : Nat} {v : Ent} {f : Nat → Ent} (hoi : ops[i]? = some oi) (hdi : oi.dst = some di) (hg : oi.guard = none)
  (hop : oi.op = .call { callee := .builtin .append, args := #[s, y], argTypes := #[42, 42] }) (hs : ev a s = some (.slice x.a n x.cap)) (hy : ev a y = some (.slice (some ⟨b, 0, none⟩) 1 1)) (hp : L.Perm ((b, .cells (hrow v).toArray 122) :: (x.bl ++ R0))) (hx : GrHOk x n f) (hv : f n = v) (hbig : n ≤ 1000000) (hk : ∀ p, p ∈ Kp → p ∈ R0)
  (h : ∀ x' : GrH, GrHOk x' (n + 1) f → xDv Tryz.prog ops B0 w0 Kp Q N (listed.setIfInBounds i true) (a.put (some di) (.slice x'.a (n + 1 : Nat) x'.cap)) (R0 ++ x'.bl))
  (hr : xEm Tryz.prog ops B0 w0 Kp Q N listed a L r) : xEm Tryz.prog ops B0 w0 Kp Q N listed a L (i :: r) := by
 rw [← hdi] at h
 refine ⟨⟨oi, hoi, fun v M => ∃ x' : GrH, v = .slice x'.a (n + 1 : Nat) x'.cap ∧ GrHOk x' (n + 1) f ∧ M = R0 ++ x'.bl, .inl ⟨xCd hg _, fun w hw => ?_⟩, fun v M ⟨x', hv, hx, hM⟩ => ?_⟩, hr⟩
 ·obtain ⟨x', w', hrun, hx', hR'⟩ := appH_run (ty := oi.type) hw hp hx hv hbig
  have hs := xAw hs
  have hy := xAw hy
  unfold execOp
  simp only [hop, resolve, invoke, builtin, Sem.run_bind, Sem.run_pure, Result.andThen_ok, List.map_toArray, List.map_cons, List.map_nil, hs, hy, hrun]
  exact ⟨_, ⟨x', rfl, hx', rfl⟩, hR'.permN List.perm_append_comm⟩
 ·subst hv hM
  exact ⟨fun p hp => List.mem_append_left _ (hk p hp), h x' hx⟩
end
section
variable {ops : Array Oper} {o : Oper} {a : Act} {B0 : Nat} {w0 : World} {L L' : List (Nat × Obj)}
theorem xDk (hg : o.guard = none) {ty : TypeId} {x y : Operand} (hop : o.op = .store ty x y) {b off : Nat} (hx : ev a x = some (.pointer (some ⟨b, off, none⟩))) (hT : xDp Tryz.prog ty) {l l' : List Value} {v : Value} {t : TypeId}
  (hy : ev a y = some v) (h1 : v.oneCell' = true) (hn : off < l.length) (hl : l.set off v = l') (hs : xBq L b (.cells l.toArray t) (.cells l'.toArray t) L') : xBa Tryz.prog ops o undef a (Rep B0 w0 L) (Rep B0 w0 L') :=
 .inl ⟨xCd hg _, fun w hR => by
  have hx := xAw hx
  have hy := xAw hy
  obtain ⟨w', e, hR'⟩ := hR.storeCell (P := Tryz.prog) (ty := ty) (off := off) h1 hs hn hl
  unfold execOp
  simp only [hop, hx, hy, Instr.storeAt, Instr.sureAddr, Sem.run_bind, Sem.run_pure, Result.andThen_ok, e]
  exact ⟨rfl, hR'⟩⟩
theorem xCh (hg : o.guard = none) {ty : TypeId} {x : Operand} (hop : o.op = .load ty x) {b off : Nat} (hx : ev a x = some (.pointer (some ⟨b, off, none⟩))) (hT : xDp Tryz.prog ty) {l : List Value} {v : Value} {t : TypeId} (hm : (b, Obj.cells l.toArray t) ∈ L) (hv : l[off]? = some v) : xBa Tryz.prog ops o v a (Rep B0 w0 L) (Rep B0 w0 L) :=
 .inl ⟨xCd hg _, fun w hR => by
  have hx := xAw hx
  have e := cell_load (ty := ty) (hR.cell hm hv)
  unfold execOp
  simp only [hop, hx, Instr.loadAt, Instr.sureAddr, Sem.run_bind, Sem.run_pure, Result.andThen_ok, e]
  exact ⟨rfl, hR⟩⟩
end
end
section
def bkL (N : Int) (s : Value) : List Value := [.int .i64 N, .slice none 0 0, .slice none 0 0, .slice none 0 0, s, .slice none 0 0, .slice none 0 0, .slice none 0 0, .slice none 0 0, .slice none 0 0, .slice none 0 0, .slice none 0 0, .slice none 0 0, .slice none 0 0, .slice none 0 0, .slice none 0 0, .slice none 0 0, .slice none 0 0]
attribute [local irreducible] Calls Instr.build Instr.buildSlice
end
section
noncomputable def curSet (cur : List Value) (k v : Nat) : List Value := cur.take (k * 4) ++ nl v ++ cur.drop (k * 4 + 4)
theorem NOwn.put {cap n k v : Nat} {cur : List Value} {f : Nat → Nat} (h : NOwn cap cur n f) (hk : k < n) : NOwn cap (curSet cur k v) n (fun j => if j = k then v else f j) := by
 have h1 := h.le
 have h2 := h.len
 refine ⟨h.le, h.big, ?_, ?_⟩
 ·unfold curSet
  rw [List.length_append, List.length_append, List.length_take, List.length_drop, xHm, h2]
  omega
 ·have e := rowsN_set (f := f) (f' := fun j => if j = k then v else f j) (i := k) (n := n) (v := v) hk (fun j _ => rfl)
  rw [← e, ← h.is]
  unfold curSet
  rw [List.take_take, Nat.min_eq_left (by omega : k * 4 ≤ n * 4), List.drop_take, List.take_append, List.take_of_length_le (by rw [List.length_append, List.length_take, xHm, h2]; omega)]
  congr 2
  rw [List.length_append, List.length_take, xHm, h2]
  omega
theorem GrHOk.row {x : GrH} {m : Nat} {E : Nat → Ent} (h : GrHOk x m E) (hm : m ≠ 0) : ∃ g, ∃ cur : List Value, x.a = some ⟨g, 0, none⟩ ∧ x.bl = [(g, .cells cur.toArray 122)] ∧ m ≤ x.cap ∧ x.cap ≤ maxLen ∧ cur.length = x.cap * 3 ∧ cur.take (m * 3) = rowsH E m ∧ ∀ j, j < m → (cur.drop (j * 3)).take 3 = hrow (E j) := by
 rcases h with ⟨_, h⟩ | ⟨g, cur, h1, h2, h3, h4, h5, h6⟩
 ·exact absurd h hm
 ·refine ⟨g, cur, h1, h2, h3, h4, h5, h6, fun j hj => ?_⟩
  rw [← rowsH_at E m j hj, ← h6, List.drop_take, List.take_take, Nat.min_eq_left (by omega)]
attribute [local irreducible] Calls Instr.build Instr.buildSlice
section
variable {ops : Array Oper} {o : Oper} {a : Act} {B0 : Nat} {w0 w : World} {L L' : List (Nat × Obj)}
theorem yields_storeO (hg : o.guard = none) {x y : Operand} (hop : o.op = .store 24 x y) {b k n cap v : Nat} {cur : List Value} {f : Nat → Nat} {t : TypeId} (hx : ev a x = some (.pointer (some ⟨b, k * 4, none⟩))) (hy : ev a y = some (num v)) (ho : NOwn cap cur n f) (hk : k < n)
  (hs : xBq L b (.cells cur.toArray t) (.cells (curSet cur k v).toArray t) L') : xBa Tryz.prog ops o undef a (Rep B0 w0 L) (Rep B0 w0 L') :=
 .inl ⟨xCd hg _, fun w hR => by
  have hx := xAw hx
  have hy := xAw hy
  obtain ⟨w', e, hR'⟩ := hR.storeRow (P := Tryz.prog) (ty := 24) (off := k * 4) (vs := nl v) rfl rfl hs (by rw [ho.len, xHm]; have := ho.le; omega) rfl
  unfold execOp
  simp only [hop, hx, hy, Instr.storeAt, Instr.sureAddr, Sem.run_bind, Sem.run_pure, Result.andThen_ok, e]
  exact ⟨rfl, hR'⟩⟩
theorem mark_num (N : Nat) (hN : N < 9223372036854775808) (w : World) : Calls Tryz.prog 137 #[.int .i64 (N : Int)] w fun e w' => e = .returned (num N) ∧ Below w.heap.size w w' := by
 have ew : IntKind.u64.wrap (N : Int) = (N : Int) := by rw [IntKind.wrap_u64]; omega
 have hb := fun w => mark_build N (by omega) w
 have hR := Rep.init w
 go_enter Tryz.func137, Tryz.ntmps137
 go_wp2_with (first | (refine' aBq hR ?_; clear hR; intro blk w hR) | (refine' aFq hR ?_; clear hR; intro w hR) | (refine' xCk rfl rfl rfl hb ?_))
 (refine' bodyPost_ret (xAq Tryz.results137 rfl (hR.loadAll (P := Tryz.prog) (ty := 24) ?hm ?hn)) rfl ⟨?_, hR.below⟩; (case hm => first | with_reducible assumption | repeat (first | exact .head _ | with_reducible assumption | apply mC)); (case hn => first | rfl | simp))
 rfl
theorem is_num (N x : Nat) (hN : N < 9223372036854775808) (w : World) : Calls Tryz.prog 154 #[num x, .int .i64 (N : Int)] w fun e w' => e = .returned (.bool (eqN x N)) ∧ Below w.heap.size w w' := by
 have ew : IntKind.u64.wrap (N : Int) = (N : Int) := by rw [IntKind.wrap_u64]; omega
 have hb := fun w => mark_build N (by omega) w
 have hR := Rep.init w
 go_enter Tryz.func154, Tryz.ntmps154
 go_wp2_with (first | (refine' aAq hR ?_; clear hR; intro blk w hR) | (refine' aNq hR ?_) | (refine' xCk rfl rfl rfl hb ?_))
 go_ret
 exact ⟨rfl, hR.below⟩
end
end
end Go.Proofs.YtaaahfjpnggkbaaGreatDoor
