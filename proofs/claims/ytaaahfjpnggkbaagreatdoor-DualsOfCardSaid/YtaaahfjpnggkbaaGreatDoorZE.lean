import Derived.Test.YtaaahfjpnggkbaaGreatDoorZC
set_option linter.unusedSimpArgs false
set_option linter.unusedVariables false
set_option maxRecDepth 100000
set_option maxHeartbeats 20000000
namespace Go.Proofs.YtaaahfjpnggkbaaGreatDoor
open Go.RowKit
section
attribute [local irreducible] Calls Instr.build Instr.buildSlice
section
variable {ops : Array Oper} {B0 : Nat} {w0 : World} {Kp : List (Nat × Obj)} {Q : Exit → Act → World → Prop} {L R L' : List (Nat × Obj)}
theorem xGw {o : Oper} {a : Act} (hg : o.guard = none) {x : Operand} (hop : o.op = .assign x ∨ o.op = .move x) {v : Value} (hx' : ev a x = some v) : xBg Tryz.prog ops o v a (Rep B0 w0 L) (Rep B0 w0 L) :=
 .inl ⟨xDv hg _, fun w hR => by
  have hx := xBj hx'
  unfold execOp
  subst hx
  rcases hop with hop | hop
  all_goals
   rw [hop]
   exact ⟨rfl, hR⟩⟩
end
section
variable {p q g h : Nat} {fb : Nat} {e : Int} {B0 : Nat} {w0 w : World} {L L' : List (Nat × Obj)} {a : Option Addr} {n cp : Nat} {f : Nat → Nat}
theorem grN_nat {X : GrN} {m : Nat} {F : Nat → Nat} (h : GrNOk X m F) (hF : ∀ j, j < m → F j < B) (hL : ∀ p, p ∈ X.bl → p ∈ L) : NAt B0 w0 L X.a m X.cap F :=
 ⟨(grN_cap h).1, (grN_cap h).2, hF, fun hm => by
  obtain ⟨g, cur, ha, hb, ho⟩ := grn_own h hm
  rw [ha]
  exact (ho.at (B0 := B0) (w0 := w0) (g := g) (hL _ (by rw [hb]; exact .head _)) (Nat.le_refl _) hF).at' hm⟩
end
end
section
section
variable {P : Program} {B0 : Nat} {w0 w w' : World} {L M : List (Nat × Obj)}
theorem Rep.join (hR : Rep B0 w0 L w) (h : Rep w.heap.size w M w') : Rep B0 w0 (M ++ L) w' := by
 have hb := hR.call h.below
 refine ⟨hb.below, hb.le, fun p hp => ?_, ?_⟩
 ·rcases List.mem_append.1 hp with hp | hp
  ·exact ⟨Nat.le_trans hR.le (h.own p hp).1, (h.own p hp).2⟩
  ·exact hb.own p hp
 ·rw [List.map_append]
  refine List.nodup_append.2 ⟨h.uniq, hR.uniq, fun x hx y hy hxy => ?_⟩
  obtain ⟨p1, hp1, rfl⟩ := List.mem_map.1 hx
  obtain ⟨p2, hp2, rfl⟩ := List.mem_map.1 hy
  have h1 := (h.own p1 hp1).1
  have h2 := hR.lt hp2
  omega
theorem num_zero_cells : ∀ k, k < 4 → (nl 0)[k]? = some (.int .u64 0) := fun k hk => by
 have : k = 0 ∨ k = 1 ∨ k = 2 ∨ k = 3 := by omega
 unfold nl
 simp only [wd_zero]
 rcases this with rfl | rfl | rfl | rfl <;> rfl
theorem info_numZ : (Tryz.prog.info? 24).map (fun i => (i.zero.map (fun z => z.cells), i.size, i.bytes)) = some (some #[.int .u64 0, .int .u64 0, .int .u64 0, .int .u64 0], 4, 32) := by kernel_rfl
theorem made_rows (n : Nat) : (madeCells #[Value.int .u64 0, .int .u64 0, .int .u64 0, .int .u64 0] (n * 4)).toList = xBy (fun _ => 0) n := by
 refine List.ext_getElem? fun m => ?_
 by_cases hm : m < n * 4
 ·obtain ⟨j, k, hk, rfl⟩ : ∃ j k, k < 4 ∧ m = j * 4 + k := ⟨m / 4, m % 4, Nat.mod_lt _ (by decide), by omega⟩
  rw [xGu _ n j k (by omega) hk, num_zero_cells k hk]
  unfold madeCells
  rw [Array.toList_map, List.getElem?_map, Array.toList_range, List.getElem?_range hm]
  have e : (j * 4 + k) % 4 = k := by omega
  show some ((#[Value.int .u64 0, .int .u64 0, .int .u64 0, .int .u64 0] : Array Value)[(j * 4 + k) % 4]!) = _
  rw [e]
  have : k = 0 ∨ k = 1 ∨ k = 2 ∨ k = 3 := by omega
  rcases this with rfl | rfl | rfl | rfl <;> rfl
 ·rw [List.getElem?_eq_none (by simp [size_madeCells]; omega), List.getElem?_eq_none (by rw [xBf]; omega)]
theorem make_numsZ (n : Nat) (hn : n ≤ 1000000) (w : World) : (Instr.makeSlice 27 (.int .i64 (n : Int)) (.int .i64 (n : Int))).run Tryz.prog w = .ok (.slice (some ⟨w.heap.size, 0, none⟩) n n) (w.alloc (.cells (xBy (fun _ => 0) n).toArray 24)) := by
 have h := info_numZ
 cases hi : Tryz.prog.info? 24 with
 | none => rw [hi] at h; cases h
 | some i =>
  rw [hi] at h
  simp only [Option.map_some, Option.some.injEq, Prod.mk.injEq] at h
  obtain ⟨h1, h2, h3⟩ := h
  cases hz : i.zero with
  | none => rw [hz] at h1; cases h1
  | some z =>
   rw [hz] at h1
   have hzc : z.cells = _ := Option.some.inj h1
   have := run_make (P := Tryz.prog) w 27 24 i z Tryz.underlying27 hi hz .i64 .i64 (n : Int) (n : Int) (by omega) (Int.le_refl _) (by rw [h3]; omega) (by omega)
   rw [this, h2, hzc, ← made_rows]
   simp
theorem xBw {f g : Nat → Nat} : ∀ {n : Nat}, (∀ j, j < n → f j = g j) → xBy f n = xBy g n
 | 0, _ => rfl
 | n + 1, h => by rw [xCp, xCp, xBw (n := n) (fun j hj => h j (by omega)), h n (by omega)]
theorem xEn {f f' : Nat → Nat} {n i v : Nat} (hi : i < n) (hf : ∀ j, j < n → f' j = if j = i then v else f j) : (xBy f n).take (i * 4) ++ nl v ++ (xBy f n).drop (i * 4 + 4) = xBy f' n := by
 have hl := xBf f n
 have ht : ((xBy f n).take (i * 4)).length = i * 4 := by rw [List.length_take, hl]; omega
 have h4 : (nl v).length = 4 := xGm v
 refine List.ext_getElem? fun m => ?_
 by_cases hm : m < n * 4
 ·obtain ⟨j, k, hk, rfl⟩ : ∃ j k, k < 4 ∧ m = j * 4 + k := ⟨m / 4, m % 4, Nat.mod_lt _ (by decide), by omega⟩
  have hj : j < n := by omega
  rw [xGu f' n j k hj hk, hf j hj]
  by_cases hji : j = i
  ·subst hji
   rw [if_pos rfl, List.getElem?_append_left (by rw [List.length_append, ht, h4]; omega), List.getElem?_append_right (by rw [ht]; omega), ht, Nat.add_sub_cancel_left]
  ·rw [if_neg hji, ← xGu f n j k hj hk]
   by_cases hlt : j < i
   ·rw [List.getElem?_append_left (by rw [List.length_append, ht, h4]; omega), List.getElem?_append_left (by rw [ht]; omega), List.getElem?_take, if_pos (by omega)]
   ·rw [List.getElem?_append_right (by rw [List.length_append, ht, h4]; omega), List.length_append, ht, h4, List.getElem?_drop]
    congr 1
    omega
 ·rw [List.getElem?_eq_none (by rw [List.length_append, List.length_append, ht, h4, List.length_drop, hl]; omega), List.getElem?_eq_none (by rw [xBf]; omega)]
end
attribute [local irreducible] Calls Instr.build Instr.buildSlice Instr.makeSlice
section
variable {ops : Array Oper} {B0 : Nat} {w0 : World} {L L' : List (Nat × Obj)} {o : Oper} {a : Act}
theorem xGx (hg : o.guard = none) {x y : Operand} (hop : o.op = .store 24 x y) {b i n v : Nat} {f f' : Nat → Nat} {t : TypeId} (hx : ev a x = some (.pointer (some ⟨b, i * 4, none⟩))) (hy : ev a y = some (num v)) (hi : i < n) (hf : ∀ j, j < n → f' j = if j = i then v else f j)
  (hs : xBq L b (.cells (xBy f n).toArray t) (.cells (xBy f' n).toArray t) L') : xBg Tryz.prog ops o undef a (Rep B0 w0 L) (Rep B0 w0 L') :=
 .inl ⟨xDv hg _, fun w hR => by
  have hx := xBj hx
  have hy := xBj hy
  obtain ⟨w', e, hR'⟩ := hR.storeRow (P := Tryz.prog) (ty := 24) (off := i * 4) (vs := nl v) rfl rfl hs (by rw [xBf, xGm]; omega) (xEn hi hf)
  unfold execOp
  simp only [hop, hx, hy, Instr.storeAt, Instr.sureAddr, Sem.run_bind, Sem.run_pure, Result.andThen_ok, e]
  exact ⟨rfl, hR'⟩⟩
theorem xDl {n : Nat} (hg : o.guard = none) {x y : Operand} (hop : o.op = .makeSlice 27 x y) (hx : ev a x = some (.int .i64 (n : Int))) (hy : ev a y = some (.int .i64 (n : Int))) (hn : n ≤ 1000000) : IsNew Tryz.prog o a (.cells (xBy (fun _ => 0) n).toArray 24) (fun b => .slice (some ⟨b, 0, none⟩) n n) :=
 ⟨hg, fun w => by
  have hx := xBj hx
  have hy := xBj hy
  unfold execOp
  simp only [hop, hx, hy, make_numsZ n hn, Sem.run_bind, Result.andThen_ok, Sem.run_pure]⟩
end
end
end Go.Proofs.YtaaahfjpnggkbaaGreatDoor
