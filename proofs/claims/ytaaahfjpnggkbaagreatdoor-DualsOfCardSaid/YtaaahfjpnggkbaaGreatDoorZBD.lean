import Derived.Test.YtaaahfjpnggkbaaGreatDoorZBC
set_option linter.unusedSimpArgs false
set_option linter.unusedVariables false
set_option maxRecDepth 100000
set_option maxHeartbeats 20000000
namespace Go.Proofs.YtaaahfjpnggkbaaGreatDoor
open Go.RowKit
section
attribute [local irreducible] Calls Instr.build Instr.buildSlice
section
variable {B0 : Nat} {w0 w : World} {R : List (Nat × Obj)} {bb hb : Nat} {E : Nat → Ent} {g : Nat → Option Nat} {hcur : List Value} {m hc : Nat} {N : Int}
theorem apart_nums {C : Nat → List Value} {f : Nat → Nat → Nat} (hm : m ≤ 1000) (hrw : ∀ j, j < m → (hcur.drop (j * 3)).take 3 = hrow (E j)) (hl : m * 3 ≤ hcur.length) (hk : ∀ j, j < m → (E j).k ≤ 1000000 ∧ (E j).n ≤ 900000) (hE : ∀ j, j < m → EntOk (E j) (g j) (C j) (f j))
  (hR : Rep B0 w0 ((bb, .cells (bkL N (.slice (some ⟨hb, 0, none⟩) m hc)).toArray 57) :: (hb, .cells hcur.toArray 122) :: (xEa (fun j => blkE (g j) (C j)) m ++ R)) w) :
  Calls Tryz.prog 17 #[.pointer (some ⟨bb, 0, none⟩)] w fun e w' => e = .returned (.bool true) ∧ Rep B0 w0 R w' := by
 have c1 := fun (w : World) (hw : Rep B0 w0 ((bb, .cells (bkL N (.slice (some ⟨hb, 0, none⟩) m hc)).toArray 57) :: (hb, .cells hcur.toArray 122) :: (xEa (fun j => blkE (g j) (C j)) m ++ R)) w) => fill_num hm (bk_s N _) hrw hl (fun j hj => ⟨(hk j hj).1, by have := (hk j hj).2; omega⟩) hE hw
 have c2 := fun (C' : Nat → List Value) (hC' : ∀ j, j < m → EntOk (E j) (g j) (C' j) (fun _ => (E j).k)) (w : World) (hw : Rep B0 w0 ((bb, .cells (bkL N (.slice (some ⟨hb, 0, none⟩) m hc)).toArray 57) :: (hb, .cells hcur.toArray 122) :: (xEa (fun j => blkE (g j) (C' j)) m ++ R)) w) => grow_num hm (bk_s N _) hrw hl hk hC' hw
 replace hk := Held.mk hk
 replace hrw := Held.mk hrw
 clear hE
 go_enter Tryz.func17, Tryz.ntmps17
 go_wp2_with (first | (refine' aAq hR ?_; clear hR; intro blk w hR) | (refine' aBq hR ?_; clear hR; intro blk w hR) | (refine' aPq hR ?_) | (refine' aQq hR ?_) | (refine' aRq hR ?_) | (refine' aFq hR ?_; clear hR; intro w hR) | (refine' aGq hR ?_; clear hR; intro w hR) | (go_at_call 49; refine (fill_Byte (.head _) rfl hR).mono ?_; clear hR; rintro e w ⟨rfl, hR⟩) | (go_at_call 50; refine (fill_Int (.head _) rfl hR).mono ?_; clear hR; rintro e w ⟨rfl, hR⟩) | (go_at_call 51; refine (fill_Text (.head _) rfl hR).mono ?_; clear hR; rintro e w ⟨rfl, hR⟩) | (go_at_call 52; refine (c1 _ hR).mono ?_; clear hR; rintro e w ⟨rfl, C', hC', hR⟩; replace hC' := Held.mk hC') | (go_at_call 53; refine (fill_Hash (.head _) rfl hR).mono ?_; clear hR; rintro e w ⟨rfl, hR⟩) | (go_at_call 54; refine (fill_Reason (.head _) rfl hR).mono ?_; clear hR; rintro e w ⟨rfl, hR⟩) | (go_at_call 55; refine (fill_Key (.head _) rfl hR).mono ?_; clear hR; rintro e w ⟨rfl, hR⟩) | (go_at_call 56; refine (fill_Proof (.head _) rfl hR).mono ?_; clear hR; rintro e w ⟨rfl, hR⟩) | (go_at_call 57; refine (fill_Dealing (.head _) rfl hR).mono ?_; clear hR; rintro e w ⟨rfl, hR⟩) | (go_at_call 58; refine (fill_Opened (.head _) rfl hR).mono ?_; clear hR; rintro e w ⟨rfl, hR⟩) | (go_at_call 59; refine (fill_Shown (.head _) rfl hR).mono ?_; clear hR; rintro e w ⟨rfl, hR⟩) | (go_at_call 60; refine (fill_Vote (.head _) rfl hR).mono ?_; clear hR; rintro e w ⟨rfl, hR⟩) | (go_at_call 61; refine (fill_Block (.head _) rfl hR).mono ?_; clear hR; rintro e w ⟨rfl, hR⟩) | (go_at_call 62; refine (fill_Evidence (.head _) rfl hR).mono ?_; clear hR; rintro e w ⟨rfl, hR⟩) | (go_at_call 63; refine (fill_Msg (.head _) rfl hR).mono ?_; clear hR; rintro e w ⟨rfl, hR⟩) | (go_at_call 64; refine (fill_Frame (.head _) rfl hR).mono ?_; clear hR; rintro e w ⟨rfl, hR⟩) | (go_at_call 65; refine (fill_Record (.head _) rfl hR).mono ?_; clear hR; rintro e w ⟨rfl, hR⟩) | (go_at_call 66; refine (grow_Byte (.head _) rfl hR).mono ?_; clear hR; rintro e w ⟨rfl, hR⟩) | (go_at_call 67; refine (grow_Int (.head _) rfl hR).mono ?_; clear hR; rintro e w ⟨rfl, hR⟩) | (go_at_call 68; refine (grow_Text (.head _) rfl hR).mono ?_; clear hR; rintro e w ⟨rfl, hR⟩) | (go_at_call 69; refine (c2 _ hC'.out _ hR).mono ?_; clear hR; rintro e w ⟨rfl, E', hcur', F', hlen', hG', hR⟩; replace hG' := Held.mk hG'; replace hlen' := Held.mk hlen') | (go_at_call 70; refine (grow_Hash (.head _) rfl hR).mono ?_; clear hR; rintro e w ⟨rfl, hR⟩) | (go_at_call 71; refine (grow_Reason (.head _) rfl hR).mono ?_; clear hR; rintro e w ⟨rfl, hR⟩) | (go_at_call 72; refine (grow_Key (.head _) rfl hR).mono ?_; clear hR; rintro e w ⟨rfl, hR⟩) | (go_at_call 73; refine (grow_Proof (.head _) rfl hR).mono ?_; clear hR; rintro e w ⟨rfl, hR⟩) | (go_at_call 74; refine (grow_Dealing (.head _) rfl hR).mono ?_; clear hR; rintro e w ⟨rfl, hR⟩) | (go_at_call 75; refine (grow_Opened (.head _) rfl hR).mono ?_; clear hR; rintro e w ⟨rfl, hR⟩) | (go_at_call 76; refine (grow_Shown (.head _) rfl hR).mono ?_; clear hR; rintro e w ⟨rfl, hR⟩) | (go_at_call 77; refine (grow_Vote (.head _) rfl hR).mono ?_; clear hR; rintro e w ⟨rfl, hR⟩) | (go_at_call 78; refine (grow_Block (.head _) rfl hR).mono ?_; clear hR; rintro e w ⟨rfl, hR⟩) | (go_at_call 79; refine (grow_Evidence (.head _) rfl hR).mono ?_; clear hR; rintro e w ⟨rfl, hR⟩) | (go_at_call 80; refine (grow_Msg (.head _) rfl hR).mono ?_; clear hR; rintro e w ⟨rfl, hR⟩) | (go_at_call 81; refine (grow_Frame (.head _) rfl hR).mono ?_; clear hR; rintro e w ⟨rfl, hR⟩) | (go_at_call 82; refine (grow_Record (.head _) rfl hR).mono ?_; clear hR; rintro e w ⟨rfl, hR⟩))
 have c3 := fun (w : World) (hw : Rep B0 w0 ((bb, .cells (bkL N (.slice (some ⟨hb, 0, none⟩) m hc)).toArray 57) :: (hb, .cells hcur'.toArray 122) :: (xEa F' m ++ R)) w) => look_num (E := E') hm (bk_s N _) (fun j hj => (hG'.out j hj).1) (by rw [hlen'.out]; exact hl) (fun j hj => by
  obtain ⟨_, h1, h2, h3, h4, h5, _⟩ := hG'.out j hj
  have := hk.out j hj
  exact ⟨by omega, by omega, by omega⟩) (fun j hj => grown_nat (hG'.out j hj).2 (Nat.lt_of_le_of_lt (hk.out j hj).1 (lt_B (by decide))) (fun p hp => .tail _ (.tail _ (List.mem_append_left _ (blksB_mem hj hp))))) (.head _) (.tail _ (.head _)) hw
 clear c1 c2 hC' hG' hlen' hk hrw
 go_wp2_with (first | go_skip | (refine' aAq hR ?_; clear hR; intro blk w hR) | (refine' aBq hR ?_; clear hR; intro blk w hR) | (refine' aPq hR ?_) | (refine' aQq hR ?_) | (refine' aRq hR ?_) | (refine' aFq hR ?_; clear hR; intro w hR) | (refine' aGq hR ?_; clear hR; intro w hR) | (refine' aEr hR ?_) | (refine' aFr hR ?_) | (refine' aHr hR ?_) | (go_at_call 83; refine (look_Byte (.head _) rfl hR).mono ?_; clear hR; rintro e w ⟨rfl, hR⟩) | (go_at_call 84; refine (look_Int (.head _) rfl hR).mono ?_; clear hR; rintro e w ⟨rfl, hR⟩) | (go_at_call 85; refine (look_Text (.head _) rfl hR).mono ?_; clear hR; rintro e w ⟨rfl, hR⟩) | (go_at_call 87; refine (look_Hash (.head _) rfl hR).mono ?_; clear hR; rintro e w ⟨rfl, hR⟩) | (go_at_call 88; refine (look_Reason (.head _) rfl hR).mono ?_; clear hR; rintro e w ⟨rfl, hR⟩) | (go_at_call 89; refine (look_Key (.head _) rfl hR).mono ?_; clear hR; rintro e w ⟨rfl, hR⟩) | (go_at_call 90; refine (look_Proof (.head _) rfl hR).mono ?_; clear hR; rintro e w ⟨rfl, hR⟩) | (go_at_call 91; refine (look_Dealing (.head _) rfl hR).mono ?_; clear hR; rintro e w ⟨rfl, hR⟩) | (go_at_call 92; refine (look_Opened (.head _) rfl hR).mono ?_; clear hR; rintro e w ⟨rfl, hR⟩) | (go_at_call 93; refine (look_Shown (.head _) rfl hR).mono ?_; clear hR; rintro e w ⟨rfl, hR⟩) | (go_at_call 94; refine (look_Vote (.head _) rfl hR).mono ?_; clear hR; rintro e w ⟨rfl, hR⟩) | (go_at_call 95; refine (look_Block (.head _) rfl hR).mono ?_; clear hR; rintro e w ⟨rfl, hR⟩) | (go_at_call 96; refine (look_Evidence (.head _) rfl hR).mono ?_; clear hR; rintro e w ⟨rfl, hR⟩) | (go_at_call 97; refine (look_Msg (.head _) rfl hR).mono ?_; clear hR; rintro e w ⟨rfl, hR⟩) | (go_at_call 98; refine (look_Frame (.head _) rfl hR).mono ?_; clear hR; rintro e w ⟨rfl, hR⟩) | (go_at_call 99; refine (look_Record (.head _) rfl hR).mono ?_; clear hR; rintro e w ⟨rfl, hR⟩) | (go_at_call 86; refine (c3 _ hR).mono ?_; clear hR; rintro e w ⟨rfl, hR⟩))
 go_ret
 exact ⟨rfl, hR.weaken (((List.sublist_append_right _ _).cons _).cons _)⟩
end
end
section
theorem NAt.congr {B0 : Nat} {w0 : World} {L : List (Nat × Obj)} {a : Option Addr} {n cp : Nat} {f f' : Nat → Nat} (h : NAt B0 w0 L a n cp f) (he : ∀ j, j < n → f j = f' j) : NAt B0 w0 L a n cp f' :=
 ⟨h.lec, h.big, fun j hj => by rw [← he j hj]; exact h.lt j hj, fun hn => by
  obtain ⟨b, o, h1, h2⟩ := h.at' hn
  exact ⟨b, o, h1, fun w hw j hj => by rw [← he j hj]; exact h2 w hw j hj⟩⟩
theorem twin_nat {B0 : Nat} {w0 : World} {L : List (Nat × Obj)} {g cap n : Nat} {cur : List Value} {f : Nat → Nat} (h : NOwn cap cur (n + 1) (twN f n)) (hm : (g, Obj.cells cur.toArray 24) ∈ L) (hlt : ∀ j, j < n → f j < B) : NAt B0 w0 L (some ⟨g, 0, none⟩) n cap f :=
 (h.at hm (Nat.le_succ n) (fun j hj => by rw [twN_lt f hj]; exact hlt j hj)).congr fun j hj => twN_lt f hj
theorem twin_ent {g cap n k : Nat} {cur : List Value} {f : Nat → Nat} (h : NOwn cap cur (n + 1) (twN f n)) : EntOk ⟨some ⟨g, 0, none⟩, n, cap, none, 0, 0, k⟩ (some g) cur (twN f n) := .inr ⟨g, rfl, rfl, h.less (k := 1)⟩
theorem grn_ent {X : GrN} {n : Nat} (k : Nat) {f : Nat → Nat} (h : GrNOk X n f) : ∃ g cur, EntOk ⟨X.a, n, X.cap, none, 0, 0, k⟩ g cur f ∧ X.bl = blkE g cur := by
 rcases h with ⟨rfl, rfl⟩ | ⟨g, cur, h1, h2, h3, h4, h5, h6⟩
 ·exact ⟨none, [], .inl ⟨rfl, rfl, rfl, rfl⟩, rfl⟩
 ·exact ⟨some g, cur, .inr ⟨g, rfl, h1, h3, h4, h5, h6⟩, h2⟩
theorem perm_blocks {L L' : List (Nat × Obj)} (h : ∀ [DecidableEq (Nat × Obj)] (a : Nat × Obj), L.count a = L'.count a) : L.Perm L' := by
 haveI : DecidableEq (Nat × Obj) := fun a b => Classical.propDecidable (a = b)
 exact List.perm_iff_count.2 fun a => h a
instance zeroBook : xJh Tryz.prog 57 (bkL 0 (.slice none 0 0)) := ⟨.agg (bkL 0 (.slice none 0 0)).toArray, by kernel_rfl, rfl⟩
theorem build_book (w : World) : (Instr.build 57 #[]).run Tryz.prog w = .ok (.agg (bkL 0 (.slice none 0 0)).toArray) w := by kernel_rfl
theorem wpList_buildE {P : Program} {ops : Array Oper} {rest : List Oper} {o : Oper} {a : Act} {w : World} {Q : Exit → Act → World → Prop} (hg : o.guard = none) {t : TypeId} (hop : o.op = .build t #[]) {v : Value}
  (hrun : ∀ w, (Instr.build t #[]).run P w = .ok v w) (h : wpList P ops Q rest (a.put o.dst v) w) : wpList P ops Q (o :: rest) a w :=
 wpList_plain hg fun _ hK => by
  unfold Oper.wp execOp
  simp only [hop, List.map_toArray, List.map_nil, hrun, Sem.run_bind, Result.andThen_ok, Sem.run_pure]
  exact hK _ _ h
def at5 {α : Type} (e0 e1 e2 e3 e4 : α) : Nat → α
 | 0 => e0
 | 1 => e1
 | 2 => e2
 | 3 => e3
 | _ => e4
attribute [local irreducible] Calls Instr.build Instr.buildSlice
section
variable {B0 : Nat} {w0 w : World} {R : List (Nat × Obj)} {bb : Nat} {E : Nat → Ent}
theorem book_nums {x : GrH} {m N n c : Nat} {a : Option Addr} (hx : GrHOk x m E) (hm : m ≤ 1000) (hN : N ≤ 1000) (hE : E m = ⟨a, n, c, none, 0, 0, N + 1⟩) (hR : Rep B0 w0 ((bb, .cells (bkL N (.slice x.a m x.cap)).toArray 57) :: (x.bl ++ R)) w) :
  Calls Tryz.prog 16 #[.pointer (some ⟨bb, 0, none⟩), .slice a n c] w fun e w' => e = .returned (.tuple #[]) ∧ ∃ x' : GrH, GrHOk x' (m + 1) E ∧ Rep B0 w0 ((bb, .cells (bkL ((N + 1 : Nat) : Int) (.slice x'.a (m + 1 : Nat) x'.cap)).toArray 57) :: (x'.bl ++ R)) w' :=
 (nums_any hx hm hN hE hR).mono fun e w' ⟨h1, x', h2, h3⟩ => ⟨h1, x', h2, h3.permN (List.Perm.cons _ List.perm_append_comm)⟩
theorem book_apart {x : GrH} {m : Nat} {g : Nat → Option Nat} {C : Nat → List Value} {f : Nat → Nat → Nat} {L : List (Nat × Obj)} (hx : GrHOk x m E) (hm0 : m ≠ 0) (hm : m ≤ 1000) (hk : ∀ j, j < m → (E j).k ≤ 1000000 ∧ (E j).n ≤ 900000) (hE : ∀ j, j < m → EntOk (E j) (g j) (C j) (f j)) (hL : L.Perm (xEa (fun j => blkE (g j) (C j)) m ++ R)) {N : Int}
  (hR : Rep B0 w0 ((bb, .cells (bkL N (.slice x.a m x.cap)).toArray 57) :: (x.bl ++ L)) w) :
  Calls Tryz.prog 17 #[.pointer (some ⟨bb, 0, none⟩)] w fun e w' => e = .returned (.bool true) ∧ Rep B0 w0 R w' := by
 rcases hx with ⟨_, h⟩ | ⟨hb, hcur, ha, hbl, h1, h2, h3, h4⟩
 ·exact absurd h hm0
 rw [ha, hbl] at hR
 refine apart_nums hm (fun j hj => ?_) (by omega) hk hE (hR.permN (List.Perm.cons _ (List.Perm.cons _ hL)))
 have h5 : (hcur.take (m * 3)).drop (j * 3) = (hcur.drop (j * 3)).take (m * 3 - j * 3) := List.drop_take ..
 have h6 := rowsH_at E m j hj
 rw [← h4, h5, List.take_take] at h6
 rw [← h6]
 congr 1
 omega
end
end
end Go.Proofs.YtaaahfjpnggkbaaGreatDoor
