/- The walk of balefirelaw12.DualsPass. -/
import Derived.Test.YtgfoeongjhkdmaaUDAll
import Derived.Test.YtgfoeongjhkdmaaUFlat
set_option linter.unusedVariables false
set_option linter.unusedSimpArgs false
namespace Go.Proofs.Ytgfoeongjhkdmaa
open Go.ChangeShapes Go.WideShapes Go.ChangeAt Go.RowKit
attribute [local irreducible] Calls Instr.build Instr.buildSlice
theorem cells_spoil : Try.prog.cellsOf 46 = 3 := by kernel_rfl
theorem types_spoil : Try.prog.cellTypes Try.prog.depth 46 = some [5, 5, 22] := by kernel_rfl
set_option maxRecDepth 100000 in
theorem is_spoil {W : World} {r : Reach} {b0 : Nat} {v : Value} (hval : Value.okWide Try.prog W r b0 46 v) : ∃ mo ai bw : Nat, mo < 256 ∧ ai < 256 ∧ bw < 18446744073709551616 ∧ v = .agg #[.int .u8 (mo : Int), .int .u8 (ai : Int), .int .u64 (bw : Int)] := by
  obtain ⟨cs, rfl, hsz, h2⟩ : ∃ cs, v = .agg cs ∧ cs.size = Try.prog.cellsOf 46 ∧ Row.okWide Try.prog W r b0 46 cs := by
    simpa [Value.okWide, Try.underlying46] using hval
  rw [cells_spoil] at hsz
  obtain ⟨l⟩ := cs
  have hl : l.length = 3 := by simpa using hsz
  match l, hl, h2 with
  | [u0, u1, u2], _, h2 =>
    obtain ⟨mo, l0, rfl⟩ := cell_byte (row_cell (i := 0) h2 types_spoil rfl (by decide))
    obtain ⟨ai, l1, rfl⟩ := cell_byte (row_cell (i := 1) h2 types_spoil rfl (by decide))
    obtain ⟨bw, l2, rfl⟩ := cell_word (row_cell (i := 2) h2 types_spoil rfl (by decide))
    exact ⟨mo, ai, bw, l0, l1, l2, rfl⟩
instance cellU8D : CellT Try.prog 5 := .mk' (by kernel_rfl) (by kernel_rfl)
theorem nOwn_set {cap n i v : Nat} {cur : List Value} {F F' : Nat → Nat} (h : NOwn cap cur n F) (hi : i < n) (hf : ∀ j, j < n → F' j = if j = i then v else F j) : NOwn cap (cur.take (i * 4) ++ nl v ++ cur.drop (i * 4 + 4)) n F' := by
  have hle := h.le
  have hlen := h.len
  have h1 : (cur.take (i * 4)).length = i * 4 := by rw [List.length_take, hlen]; omega
  have h2 : (cur.take (i * 4) ++ nl v).length = i * 4 + 4 := by rw [List.length_append, h1, nl_len]
  refine ⟨h.le, h.big, ?_, ?_⟩
  · rw [List.length_append, h2, List.length_drop, hlen]; omega
  · rw [← rowsN_set hi hf, ← h.is, List.take_take, List.drop_take, List.take_append, h2, List.take_of_length_le (by omega), show min (i * 4) (n * 4) = i * 4 by omega]
set_option maxRecDepth 100000 in
set_option maxHeartbeats 8000000 in
set_option maxRecDepth 100000 in
theorem dpass_walk (W : World) (p q g h : Nat) (hp : p < B) (hq : q < B) (hg : g < B) (hh : h < B) (a : Option Addr) (n cp : Nat) (f : Nat → Nat) (mo ai bw : Nat) (S1 : NAt W.heap.size W [] a n cp f) (lmo : mo < 256) (lai : ai < 256) (lbw : bw < 18446744073709551616) :
    Calls Try.prog 6 #[grp p q g h, .slice a n cp, .agg #[.int .u8 (mo : Int), .int .u8 (ai : Int), .int .u64 (bw : Int)]] W fun e w' => e = .returned (.bool true) ∧ Below W.heap.size W w' := by
  classical
  have hR := Rep.init W
  by_cases h7 : n ≤ 7
  case neg =>
    have t1 : (7 : Int) < (n : Int) := by omega
    have t1d : decide ((7 : Int) < (n : Int)) = true := decide_eq_true t1
    clear S1 hp hq hg hh h7
    go_enter Try.func6, Try.ntmps6
    go_wp2_with (first | go_skip | (refine' xAb hR rfl rfl rfl ?_; clear hR; intro blk w hR) | (refine' xAa hR rfl rfl inferInstance ?_; clear hR; intro blk w hR) | (refine' aFq hR rfl rfl rfl inferInstance ?_) | (refine' aGq hR rfl rfl rfl inferInstance ?_) | (refine' aHq hR rfl rfl rfl inferInstance ?_) | (refine' aIq hR rfl rfl rfl inferInstance rfl ?_; clear hR; intro w hR) | (refine' aJq hR rfl rfl rfl inferInstance rfl rfl ?_; clear hR; intro w hR) | (refine' xAq hR rfl rfl rfl inferInstance ?hm ?hn ?_; (case hm => first | with_reducible assumption | repeat (first | exact .head _ | with_reducible assumption | apply mC)); (case hn => first | rfl | simp)) | (refine' xAh hR rfl rfl rfl inferInstance ?hm ?hv ?_; (case hm => first | with_reducible assumption | repeat (first | exact .head _ | with_reducible assumption | apply mC)); (case hv => first | rfl | with_reducible assumption)) | (refine' xAs hR rfl rfl rfl inferInstance ?hm ?hv ?hn ?_; (case hm => first | with_reducible assumption | repeat (first | exact .head _ | with_reducible assumption | apply mC)); (case hv => first | with_reducible assumption | (simp only [kC, kD, kE, kF]; try rfl)); (case hn => first | rfl | simp)) | (go_at_call 18; refine (alive12 _).mono ?_; rintro e w ⟨rfl, hb⟩; replace hR := hR.call hb; clear hb))
    go_ret
    exact ⟨rfl, hR.below⟩
  have t1 : ¬ (7 : Int) < (n : Int) := by omega
  have t1d : decide ((7 : Int) < (n : Int)) = false := decide_eq_false t1
  by_cases h0 : n = 0
  case pos =>
    subst h0
    clear S1 hp hq hg hh h7
    go_enter Try.func6, Try.ntmps6
    go_wp2_with (first | go_skip | (refine' xAb hR rfl rfl rfl ?_; clear hR; intro blk w hR) | (refine' xAa hR rfl rfl inferInstance ?_; clear hR; intro blk w hR) | (refine' aFq hR rfl rfl rfl inferInstance ?_) | (refine' aGq hR rfl rfl rfl inferInstance ?_) | (refine' aHq hR rfl rfl rfl inferInstance ?_) | (refine' aIq hR rfl rfl rfl inferInstance rfl ?_; clear hR; intro w hR) | (refine' aJq hR rfl rfl rfl inferInstance rfl rfl ?_; clear hR; intro w hR) | (refine' xAq hR rfl rfl rfl inferInstance ?hm ?hn ?_; (case hm => first | with_reducible assumption | repeat (first | exact .head _ | with_reducible assumption | apply mC)); (case hn => first | rfl | simp)) | (refine' xAh hR rfl rfl rfl inferInstance ?hm ?hv ?_; (case hm => first | with_reducible assumption | repeat (first | exact .head _ | with_reducible assumption | apply mC)); (case hv => first | rfl | with_reducible assumption)) | (refine' xAs hR rfl rfl rfl inferInstance ?hm ?hv ?hn ?_; (case hm => first | with_reducible assumption | repeat (first | exact .head _ | with_reducible assumption | apply mC)); (case hv => first | with_reducible assumption | (simp only [kC, kD, kE, kF]; try rfl)); (case hn => first | rfl | simp)) | (go_at_call 18; refine (alive12 _).mono ?_; rintro e w ⟨rfl, hb⟩; replace hR := hR.call hb; clear hb))
    go_ret
    exact ⟨rfl, hR.below⟩
  have z1 : ((n : Int) == 0) = false := by simp; omega
  have z2 : ¬ (n : Int) = 0 := by omega
  by_cases hf : fineD p q g h n f
  case neg =>
    have cF := fun (L : List (Nat × Obj)) (w : World) (hw : Rep W.heap.size W L w) => fine12_rep hp hq hg hh (S1.any (L := L)) (by omega) false ⟨fun hx => (by cases hx), fun hx => absurd hx hf⟩ hw
    clear S1 hp hq hg hh h7 hf h0
    go_enter Try.func6, Try.ntmps6
    go_wp2_with (first | go_skip | (refine' xAb hR rfl rfl rfl ?_; clear hR; intro blk w hR) | (refine' xAa hR rfl rfl inferInstance ?_; clear hR; intro blk w hR) | (refine' aFq hR rfl rfl rfl inferInstance ?_) | (refine' aGq hR rfl rfl rfl inferInstance ?_) | (refine' aHq hR rfl rfl rfl inferInstance ?_) | (refine' aIq hR rfl rfl rfl inferInstance rfl ?_; clear hR; intro w hR) | (refine' aJq hR rfl rfl rfl inferInstance rfl rfl ?_; clear hR; intro w hR) | (refine' xAq hR rfl rfl rfl inferInstance ?hm ?hn ?_; (case hm => first | with_reducible assumption | repeat (first | exact .head _ | with_reducible assumption | apply mC)); (case hn => first | rfl | simp)) | (refine' xAh hR rfl rfl rfl inferInstance ?hm ?hv ?_; (case hm => first | with_reducible assumption | repeat (first | exact .head _ | with_reducible assumption | apply mC)); (case hv => first | rfl | with_reducible assumption)) | (refine' xAs hR rfl rfl rfl inferInstance ?hm ?hv ?hn ?_; (case hm => first | with_reducible assumption | repeat (first | exact .head _ | with_reducible assumption | apply mC)); (case hv => first | with_reducible assumption | (simp only [kC, kD, kE, kF]; try rfl)); (case hn => first | rfl | simp)) | (go_at_call 18; refine (alive12 _).mono ?_; rintro e w ⟨rfl, hb⟩; replace hR := hR.call hb; clear hb) | (go_at_call 19; refine (cF _ _ hR).mono ?_; clear hR; rintro e w ⟨rfl, hR⟩))
    go_ret
    exact ⟨rfl, hR.below⟩
  have cF := fun (L : List (Nat × Obj)) (w : World) (hw : Rep W.heap.size W L w) => fine12_rep hp hq hg hh (S1.any (L := L)) (by omega) true ⟨fun _ => hf, fun _ => rfl⟩ hw
  have hs : xCk q := hf.1.2.2.2.1
  have q1 : 1 < q := hs.1
  have hd : difOK q n := dif_small hs (by have := hf.2.1; omega)
  replace S1 := Held.mk S1
  replace hf := Held.mk hf
  replace hd := Held.mk hd
  replace h7 := Held.mk h7
  replace h0 := Held.mk h0
  clear hs hh
  have q31 : q < 2147483648 := hf.out.1.2.1
  have q7 : 7 < q := hf.out.2.1
  have hn0 : 0 < n := by have := h0.out; omega
  have hn7 := h7.out
  obtain ⟨r, hr⟩ : ∃ r, mo % (8 - n) = r := ⟨_, rfl⟩
  have lr : r < 8 - n := by rw [← hr]; exact Nat.mod_lt _ (by omega)
  have e1 : IntKind.i64.wrap (mo : Int) = (mo : Int) := by rw [IntKind.wrap_i64]; omega
  have e2 : IntKind.i64.wrap (8 - (n : Int)) = ((8 - n : Nat) : Int) := by rw [IntKind.wrap_i64]; omega
  have e2z : ¬ ((8 - n : Nat) : Int) = 0 := by omega
  have e3 : (mo : Int).tmod ((8 - n : Nat) : Int) = (r : Int) := by rw [Int.tmod_eq_emod_of_nonneg (by omega), ← hr, Int.natCast_emod]
  have e3w : IntKind.i64.wrap (r : Int) = (r : Int) := by rw [IntKind.wrap_i64]; omega
  obtain ⟨N, hN⟩ : ∃ N, n + r = N := ⟨_, rfl⟩
  have e4 : IntKind.i64.wrap ((n : Int) + (r : Int)) = (N : Int) := by rw [IntKind.wrap_i64]; omega
  have hN7 : N ≤ 7 := by omega
  have hnN : n ≤ N := by omega
  obtain ⟨o8, ho8⟩ : ∃ o, 8 - n = o := ⟨_, rfl⟩
  rw [ho8] at e2 e2z e3
  have cV := fun (L : List (Nat × Obj)) (w : World) (hw : Rep W.heap.size W L w) => values_rep (g := g) (h := h) (m := N) hp hq q1 (S1.out.any (L := L)) (by omega) hf.out.2.2 (by omega) hw
  have wq := wd_word (show q < 18446744073709551616 by omega)
  replace hN7 := Held.mk hN7
  replace hnN := Held.mk hnN
  replace hn0 := Held.mk hn0
  replace q31 := Held.mk q31
  replace q7 := Held.mk q7
  clear hr lr hN ho8 lmo hn7
  go_enter Try.func6, Try.ntmps6
  go_wp2_with (first | go_skip | (refine' xAb hR rfl rfl rfl ?_; clear hR; intro blk w hR) | (refine' xAa hR rfl rfl inferInstance ?_; clear hR; intro blk w hR) | (refine' aFq hR rfl rfl rfl inferInstance ?_) | (refine' aGq hR rfl rfl rfl inferInstance ?_) | (refine' aHq hR rfl rfl rfl inferInstance ?_) | (refine' aIq hR rfl rfl rfl inferInstance rfl ?_; clear hR; intro w hR) | (refine' aJq hR rfl rfl rfl inferInstance rfl rfl ?_; clear hR; intro w hR) | (refine' xAq hR rfl rfl rfl inferInstance ?hm ?hn ?_; (case hm => first | with_reducible assumption | repeat (first | exact .head _ | with_reducible assumption | apply mC)); (case hn => first | rfl | simp)) | (refine' xAh hR rfl rfl rfl inferInstance ?hm ?hv ?_; (case hm => first | with_reducible assumption | repeat (first | exact .head _ | with_reducible assumption | apply mC)); (case hv => first | rfl | with_reducible assumption)) | (refine' xAs hR rfl rfl rfl inferInstance ?hm ?hv ?hn ?_; (case hm => first | with_reducible assumption | repeat (first | exact .head _ | with_reducible assumption | apply mC)); (case hv => first | with_reducible assumption | (simp only [kC, kD, kE, kF]; try rfl)); (case hn => first | rfl | simp)) | (go_at_call 18; refine (alive12 _).mono ?_; rintro e w ⟨rfl, hb⟩; replace hR := hR.call hb; clear hb) | (go_at_call 19; refine (cF _ _ hR).mono ?_; clear hR; rintro e w ⟨rfl, hR⟩) | (go_at_call 20; refine (cV _ _ hR).mono ?_; clear hR; rintro e w ⟨X, rfl, hX, hR⟩; replace hX := Held.mk hX))
  clear cF cV t1 t1d z1 z2 e1 e2 e2z e3 e3w e4
  obtain ⟨b5, hb_⟩ : ∃ y, y = blk := ⟨_, rfl⟩
  subst hb_
  obtain ⟨b3, hb_⟩ : ∃ y, y = blk := ⟨_, rfl⟩
  subst hb_
  obtain ⟨gx, cx, ex, eb, hX1⟩ := grn_own hX.out (show N ≠ 0 by have := hn0.out; have := hnN.out; omega)
  obtain ⟨xa, capx, xbl⟩ := X
  simp only at ex eb hX1
  subst ex eb
  replace hR := (show Rep W.heap.size W ((gx, .cells cx.toArray 24) :: (b5, .cells [.int .u8 (mo : Int), .int .u8 (ai : Int), .int .u64 (bw : Int)].toArray 46) :: (b3, .cells (gl p q g h).toArray 26) :: []) _ from hR)
  clear hX
  replace hX1 := Held.mk hX1
  try simp only [Act.put, kA, kB, List.setIfInBounds_toArray]
  refine' xBt (false :: false :: false :: false :: false :: false :: false :: false :: false :: false :: true :: true :: false :: false :: false :: false :: false :: false :: false :: false :: false :: false :: false :: false :: false :: false :: false :: false :: false :: false :: false :: false :: false :: false :: false :: false :: false :: false :: false :: false :: false :: false :: false :: false :: false :: false :: false :: false :: false :: false :: false :: false :: true :: true :: true :: true :: true :: true :: true :: true :: true :: true :: true :: true :: true :: true :: true :: true :: true :: true :: false :: false :: false :: false :: false :: false :: false :: false :: false :: false :: false :: false :: false :: false :: false :: false :: false :: false :: false :: false :: false :: false :: false :: false :: false :: false :: false :: false :: false :: false :: false :: false :: false :: false :: false :: false :: false :: false :: false :: false :: false :: false :: false :: false :: false :: false :: false :: []) (fun (k : Nat) l => l.set 9 (.int .i64 (k : Int))) (fun k => (gx, .cells cx.toArray 24) :: (b5, .cells [.int .u8 (mo : Int), .int .u8 (ai : Int), .int .u64 (bw : Int)].toArray 46) :: (b3, .cells (gl p q g h).toArray 26) :: []) (fun k => N + 1 - k) (fun k => n ≤ k ∧ k ≤ N + 1) n ?h0 ?hO ?hR ?hs
  case h0 => exact xBh rfl rfl rfl
  case hO => exact ⟨Nat.le_refl _, by have := hnN.out; omega⟩
  case hR => exact hR
  case hs =>
    clear hR
    intro k tm w hO ht hR K hK
    obtain ⟨hk1, hk2⟩ := hO
    have g0 : 0 ≤ (k : Int) := by omega
    by_cases hkN : k = N + 1
    case neg =>
      have u1 : (k : Int) ≤ (N : Int) := by omega
      have ei : IntKind.i64.wrap ((k : Int) + 1) = (k : Int) + 1 := by have := hN7.out; rw [IntKind.wrap_i64]; omega
      have ek : ((k + 1 : Nat) : Int) = (k : Int) + 1 := by omega
      have hi1 : n ≤ k + 1 ∧ k + 1 ≤ N + 1 := ⟨by omega, by omega⟩
      have hmu : N + 1 - (k + 1) < N + 1 - k := by omega
      have hdN : difOK q N := dif_small hf.out.1.2.2.2.1 (by have := hN7.out; have := q7.out; omega)
      have hps : passD q N k (valF q n f) := val_pass q1 hdN hf.out.2.2 hn0.out hk1 (by omega)
      have cP := fun (w : World) (hw : Rep W.heap.size W ((gx, .cells cx.toArray 24) :: (b5, .cells [.int .u8 (mo : Int), .int .u8 (ai : Int), .int .u64 (bw : Int)].toArray 46) :: (b3, .cells (gl p q g h).toArray 26) :: []) w) => passes_fine hp hq hg hf.out (hX1.out.at (B0 := W.heap.size) (w0 := W) (.head _) (Nat.le_refl _) (fun j _ => Nat.lt_trans (atN_lt q1 _ _ _) hq)) (by have := hn0.out; omega) hN7.out (by have := hn0.out; omega) (by omega) true ⟨fun _ => hps, fun _ => rfl⟩ hw
      replace hi1 := Held.mk hi1
      replace hmu := Held.mk hmu
      replace ek := Held.mk ek
      clear hk1 hk2 hkN hps hdN
      repeat (first | (obtain ⟨x, tm', e, ht'⟩ := xAu ht; clear ht; subst e; have ht := ht'; clear ht') | (obtain ⟨tm', e, ht'⟩ := xAj ht; clear ht; subst e; have ht := ht'; clear ht'))
      obtain rfl := xAz ht
      clear ht
      go_wp2_with (first | go_skip | (refine' xAb hR rfl rfl rfl ?_; clear hR; intro blk w hR) | (refine' xAa hR rfl rfl inferInstance ?_; clear hR; intro blk w hR) | (refine' aFq hR rfl rfl rfl inferInstance ?_) | (refine' aGq hR rfl rfl rfl inferInstance ?_) | (refine' aHq hR rfl rfl rfl inferInstance ?_) | (refine' aIq hR rfl rfl rfl inferInstance rfl ?_; clear hR; intro w hR) | (refine' aJq hR rfl rfl rfl inferInstance rfl rfl ?_; clear hR; intro w hR) | (refine' xAq hR rfl rfl rfl inferInstance ?hm ?hn ?_; (case hm => first | with_reducible assumption | repeat (first | exact .head _ | with_reducible assumption | apply mC)); (case hn => first | rfl | simp)) | (refine' xAh hR rfl rfl rfl inferInstance ?hm ?hv ?_; (case hm => first | with_reducible assumption | repeat (first | exact .head _ | with_reducible assumption | apply mC)); (case hv => first | rfl | with_reducible assumption)) | (refine' xAs hR rfl rfl rfl inferInstance ?hm ?hv ?hn ?_; (case hm => first | with_reducible assumption | repeat (first | exact .head _ | with_reducible assumption | apply mC)); (case hv => first | with_reducible assumption | (simp only [kC, kD, kE, kF]; try rfl)); (case hn => first | rfl | simp)) | (go_at_call 21; refine (cP _ hR).mono ?_; clear hR; rintro e w ⟨rfl, hR⟩))
      exact hK.out (k + 1) _ _ hi1.out hmu.out (by simp only [ek.out]; exact xBh rfl rfl rfl) hR
    rw [hkN] at ht
    clear hK hkN hk1 hk2 g0 k
    have u1 : ¬ ((N + 1 : Nat) : Int) ≤ (N : Int) := by omega
    have q7o := q7.out
    have q31o := q31.out
    have N7o := hN7.out
    have nNo := hnN.out
    have n0o := hn0.out
    have f1 : IntKind.u64.wrap ((q : Int) - 1) = ((q - 1 : Nat) : Int) := by rw [IntKind.wrap_u64]; omega
    have f1z : ¬ ((q - 1 : Nat) : Int) = 0 := by omega
    obtain ⟨rb, hrb⟩ : ∃ r, bw % (q - 1) = r := ⟨_, rfl⟩
    have lrb : rb < q - 1 := by rw [← hrb]; exact Nat.mod_lt _ (by omega)
    have f2 : (bw : Int).tmod ((q - 1 : Nat) : Int) = (rb : Int) := by rw [Int.tmod_eq_emod_of_nonneg (by omega), ← hrb, Int.natCast_emod]
    have f2w : IntKind.u64.wrap (rb : Int) = (rb : Int) := by rw [IntKind.wrap_u64]; omega
    obtain ⟨bb, hbb⟩ : ∃ b, 1 + rb = b := ⟨_, rfl⟩
    have f3 : IntKind.u64.wrap (1 + (rb : Int)) = (bb : Int) := by rw [IntKind.wrap_u64]; omega
    have lbb : bb < q := by omega
    have bb0 : 0 < bb := by omega
    obtain ⟨q1v, hq1v⟩ : ∃ x, q - 1 = x := ⟨_, rfl⟩
    rw [hq1v] at f1 f1z f2
    have f4 : IntKind.i64.wrap (ai : Int) = (ai : Int) := by rw [IntKind.wrap_i64]; omega
    obtain ⟨ii, hii⟩ : ∃ r, ai % N = r := ⟨_, rfl⟩
    have lii : ii < N := by rw [← hii]; exact Nat.mod_lt _ (by omega)
    have f5 : (ai : Int).tmod (N : Int) = (ii : Int) := by rw [Int.tmod_eq_emod_of_nonneg (by omega), ← hii, Int.natCast_emod]
    have f5w : IntKind.i64.wrap (ii : Int) = (ii : Int) := by rw [IntKind.wrap_i64]; omega
    have f5z : ¬ (N : Int) = 0 := by omega
    have g1 : 0 ≤ (ii : Int) := by omega
    have g2 : (ii : Int) < (N : Int) := by omega
    have bB := build_small bb (by omega)
    have hXA := fun (L : List (Nat × Obj)) (hm : (gx, Obj.cells cx.toArray 24) ∈ L) => hX1.out.at (B0 := W.heap.size) (w0 := W) hm (Nat.le_refl _) (fun j _ => Nat.lt_trans (atN_lt q1 _ _ _) hq)
    have hrow := hX1.out.row lii
    obtain ⟨vi, hvi⟩ : ∃ x, valF q n f ii = x := ⟨_, rfl⟩
    have lvi : vi < q := by rw [← hvi]; exact atN_lt q1 _ _ _
    rw [hvi] at hrow
    obtain ⟨sv, hsv⟩ : ∃ x, (vi + bb) % q = x := ⟨_, rfl⟩
    have lsv : sv < q := by rw [← hsv]; exact Nat.mod_lt _ (by omega)
    have cS := SA (p := p) (g := g) (h := h) hq q1 lvi lbb hsv
    have hN1000 : N ≤ 1000 := by omega
    have hdN : difOK q N := dif_small hf.out.1.2.2.2.1 (by omega)
    have hoth := oth_pass (n := N) (m := n) (b := bb) q1 hdN hf.out.2.2 n0o nNo lii bb0 lbb
    rw [hvi, hsv] at hoth
    have hcap := hX1.out.le
    replace hoth := Held.mk hoth
    replace lii := Held.mk lii
    replace hN1000 := Held.mk hN1000
    replace lsv := Held.mk lsv
    clear hrb lrb hbb lbb bb0 hq1v hii hvi lvi hsv hdN q7o q31o N7o nNo n0o lbw lai S1 h0 h7 hcap
    repeat (first | (obtain ⟨x, tm', e, ht'⟩ := xAu ht; clear ht; subst e; have ht := ht'; clear ht') | (obtain ⟨tm', e, ht'⟩ := xAj ht; clear ht; subst e; have ht := ht'; clear ht'))
    obtain rfl := xAz ht
    clear ht
    go_wp2_with (first | (refine' xAb hR rfl rfl rfl ?_; clear hR; intro blk w hR) | (refine' xAa hR rfl rfl inferInstance ?_; clear hR; intro blk w hR) | (refine' aFq hR rfl rfl rfl inferInstance ?_) | (refine' aGq hR rfl rfl rfl inferInstance ?_) | (refine' aHq hR rfl rfl rfl inferInstance ?_) | (refine' aIq hR rfl rfl rfl inferInstance rfl ?_; clear hR; intro w hR) | (refine' aJq hR rfl rfl rfl inferInstance rfl rfl ?_; clear hR; intro w hR) | (refine' wpList_appendAllN hR rfl rfl rfl rfl (hXA _ (.head _)) hN1000.out ?_; clear hR; intro Z w hZ hR))
    clear f1 f1z f2 f2w f3 f4 f5 f5w f5z hXA
    obtain ⟨gz, cz, ez, ezb, hZ1⟩ := grn_own hZ (show N ≠ 0 by have := lii.out; omega)
    obtain ⟨za, capz, zbl⟩ := Z
    simp only at ez ezb hZ1
    subst ez ezb
    clear hZ
    replace hR := (show Rep W.heap.size W ((gz, .cells cz.toArray 24) :: (gx, .cells cx.toArray 24) :: (b5, .cells [.int .u8 (mo : Int), .int .u8 (ai : Int), .int .u64 (bw : Int)].toArray 46) :: (b3, .cells (gl p q g h).toArray 26) :: []) _ from hR)
    have hlz : ii * 4 + 4 ≤ cz.length := by have := hZ1.le; have := hZ1.len; have := lii.out; omega
    have hZ2 := nOwn_set (F' := othP (valF q n f) ii sv) hZ1 lii.out (fun j _ => rfl)
    obtain ⟨cy, hcy⟩ : ∃ c, cz.take (ii * 4) ++ nl sv ++ cz.drop (ii * 4 + 4) = c := ⟨_, rfl⟩
    rw [hcy] at hZ2
    have cP := fun (s : Bool) (hs : s = true ↔ N = n) (w : World) (hw : Rep W.heap.size W ((gz, .cells cy.toArray 24) :: (gx, .cells cx.toArray 24) :: (b5, .cells [.int .u8 (mo : Int), .int .u8 (ai : Int), .int .u64 (bw : Int)].toArray 46) :: (b3, .cells (gl p q g h).toArray 26) :: []) w) => passes_fine hp hq hg hf.out (hZ2.at (B0 := W.heap.size) (w0 := W) (.head _) (Nat.le_refl _) (fun j _ => by unfold othP; split; exact Nat.lt_trans lsv.out hq; exact Nat.lt_trans (atN_lt q1 _ _ _) hq)) (by have := lii.out; omega) hN7.out hn0.out hnN.out s (by rw [hs]; exact hoth.out.symm) hw
    replace hlz := Held.mk hlz
    replace hcy := Held.mk hcy
    clear hZ1 hZ2
    try simp only [Act.put, kA, kB, List.setIfInBounds_toArray]
    refine xAi hR [0, 0, 0, 0, 0, 0, 0, 0, 0, 0, 0, 0, 1, 0, 2] [] xCf (by kernel_rfl) rfl rfl (fun K hK => ?_)
    clear hR
    repeat ((first | (refine' hd_build1P (by decide) rfl rfl rfl bB ?ha ?_) | (refine xBl ?_) | (refine' xAr (by decide) rfl (.inl rfl) rfl ?ha ?_) | (refine' xAr (by decide) rfl (.inr rfl) rfl ?ha ?_) | (refine' xAp rfl rfl rfl inferInstance ?hm ?hn ?ha ?_; (case hm => first | with_reducible assumption | repeat (first | exact .head _ | with_reducible assumption | apply mC)); (case hn => first | rfl | simp)) | (refine' xAk rfl rfl rfl inferInstance ?hm ?hv ?hn ?ha ?_; (case hm => first | with_reducible assumption | repeat (first | exact .head _ | with_reducible assumption | apply mC)); (case hv => first | with_reducible assumption | (simp only [kC, kD, kE, kF]; try rfl)); (case hn => first | rfl | simp)) | (refine' xAf rfl rfl rfl inferInstance ?hm ?hv ?ha ?_; (case hm => first | with_reducible assumption | repeat (first | exact .head _ | with_reducible assumption | apply mC)); (case hv => first | rfl | with_reducible assumption)) | (refine' xAl rfl rfl rfl inferInstance ?hm ?hv ?hn ?ha ?_; (case hm => first | with_reducible assumption | repeat (first | exact .head _ | with_reducible assumption | apply mC)); (case hv => first | with_reducible assumption | (simp only [kC, kD, kE, kF]; try rfl)); (case hn => first | rfl | simp)) | (refine' xAe rfl rfl rfl inferInstance ?hm ?hv ?ha ?_; (case hm => first | with_reducible assumption | repeat (first | exact .head _ | with_reducible assumption | apply mC)); (case hv => first | rfl | with_reducible assumption)) | ((first | refine' xAd (by decide) rfl rfl rfl rfl (fun w => ?hq) ?ha ?_ | refine' xBb (by decide) rfl rfl rfl rfl (fun w => ?hq) ?ha ?_ | refine' xAm (by decide) rfl rfl rfl (fun w => ?hq) ?ha ?_ | refine' xAc (by decide) rfl rfl rfl (fun w => ?hq) ?ha ?_ | refine' xAo (by decide) rfl rfl rfl (fun w => ?hq) ?ha ?_ | refine' xBd (by decide) rfl rfl rfl rfl (fun w => ?hq) ?ha ?_ | refine' xBa (by decide) rfl rfl rfl rfl rfl rfl (fun w => ?hq) ?ha ?_ | refine' xBe (by decide) rfl rfl (fun w => ?hq) ?ha ?_ | refine' xAn (by decide) rfl rfl rfl (fun w => ?hq) ?ha ?_ | refine' xBc (by decide) rfl rfl rfl (fun w => ?hq) ?ha ?_); (case hq => go_simp; try rfl)) | (refine' xAg (by decide) rfl rfl rfl ?ha ?_) | (refine' xBk (by decide) rfl rfl rfl rfl ?ha ?_) | (refine' xBm (by decide) rfl ?ha ?_) | (refine' xBj rfl rfl rfl (xBi Try.func14 (by kernel_rfl) (by kernel_rfl) _) (fun w => cS w) ?ha ?_)); try (case ha => simp only [kP, kQ, kA, kB]; try rfl))
    refine xBp (hK _ _ ?_)
    clear hK K
    refine xBw (fun Q hQ => ?_)
    try simp only [List.nil_append, List.cons_append]
    try simp only [kP, kQ, kA, kB]
    refine' xAx (l := cz) (l' := cy) (vs := nl sv) rfl rfl rfl inferInstance rfl rfl ?hvn ?hss hlz.out hcy.out ?hkk ?haa ?_
    case hvn => rfl
    case hss => exact .head
    case hkk => exact fun p hp => absurd hp List.not_mem_nil
    case haa => rfl
    refine xBx (fun w hR => hQ _ _ ?_)
    clear hQ Q cS bB hrow g1 g2
    by_cases hNn : N = n
    · have c1 := cP true ⟨fun _ => hNn, fun _ => rfl⟩
      have y1 : ((N : Int) == (n : Int)) = true := by simp; omega
      have y2 : (N : Int) = (n : Int) := by omega
      clear cP hoth
      subst hNn
      go_wp2_with (first | go_skip | (refine' xAb hR rfl rfl rfl ?_; clear hR; intro blk w hR) | (refine' xAa hR rfl rfl inferInstance ?_; clear hR; intro blk w hR) | (refine' aFq hR rfl rfl rfl inferInstance ?_) | (refine' aGq hR rfl rfl rfl inferInstance ?_) | (refine' aHq hR rfl rfl rfl inferInstance ?_) | (refine' aIq hR rfl rfl rfl inferInstance rfl ?_; clear hR; intro w hR) | (refine' aJq hR rfl rfl rfl inferInstance rfl rfl ?_; clear hR; intro w hR) | (refine' xAq hR rfl rfl rfl inferInstance ?hm ?hn ?_; (case hm => first | with_reducible assumption | repeat (first | exact .head _ | with_reducible assumption | apply mC)); (case hn => first | rfl | simp)) | (refine' xAh hR rfl rfl rfl inferInstance ?hm ?hv ?_; (case hm => first | with_reducible assumption | repeat (first | exact .head _ | with_reducible assumption | apply mC)); (case hv => first | rfl | with_reducible assumption)) | (refine' xAs hR rfl rfl rfl inferInstance ?hm ?hv ?hn ?_; (case hm => first | with_reducible assumption | repeat (first | exact .head _ | with_reducible assumption | apply mC)); (case hv => first | with_reducible assumption | (simp only [kC, kD, kE, kF]; try rfl)); (case hn => first | rfl | simp)) | (go_at_call 21; refine (c1 _ hR).mono ?_; clear hR; rintro e w ⟨rfl, hR⟩))
      go_ret
      exact ⟨rfl, hR.below⟩
    · have c1 := cP false ⟨fun hx => (by cases hx), fun hx => absurd hx hNn⟩
      have y1 : ((N : Int) == (n : Int)) = false := by simp; omega
      have y2 : ¬ (N : Int) = (n : Int) := by omega
      clear cP hoth hNn
      go_wp2_with (first | go_skip | (refine' xAb hR rfl rfl rfl ?_; clear hR; intro blk w hR) | (refine' xAa hR rfl rfl inferInstance ?_; clear hR; intro blk w hR) | (refine' aFq hR rfl rfl rfl inferInstance ?_) | (refine' aGq hR rfl rfl rfl inferInstance ?_) | (refine' aHq hR rfl rfl rfl inferInstance ?_) | (refine' aIq hR rfl rfl rfl inferInstance rfl ?_; clear hR; intro w hR) | (refine' aJq hR rfl rfl rfl inferInstance rfl rfl ?_; clear hR; intro w hR) | (refine' xAq hR rfl rfl rfl inferInstance ?hm ?hn ?_; (case hm => first | with_reducible assumption | repeat (first | exact .head _ | with_reducible assumption | apply mC)); (case hn => first | rfl | simp)) | (refine' xAh hR rfl rfl rfl inferInstance ?hm ?hv ?_; (case hm => first | with_reducible assumption | repeat (first | exact .head _ | with_reducible assumption | apply mC)); (case hv => first | rfl | with_reducible assumption)) | (refine' xAs hR rfl rfl rfl inferInstance ?hm ?hv ?hn ?_; (case hm => first | with_reducible assumption | repeat (first | exact .head _ | with_reducible assumption | apply mC)); (case hv => first | with_reducible assumption | (simp only [kC, kD, kE, kF]; try rfl)); (case hn => first | rfl | simp)) | (go_at_call 21; refine (c1 _ hR).mono ?_; clear hR; rintro e w ⟨rfl, hR⟩))
      go_ret
      exact ⟨rfl, hR.below⟩
end Go.Proofs.Ytgfoeongjhkdmaa
