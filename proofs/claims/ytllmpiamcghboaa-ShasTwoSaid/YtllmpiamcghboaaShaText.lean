/- balefirelaw05.text; two hashes compared. -/
import Derived.ChangeKeysEq
import Derived.Test.YtllmpiamcghboaaShaOf
set_option linter.unusedSimpArgs false
set_option linter.unusedVariables false
namespace Go.Proofs.Ytllmpiamcghboaa
open Go.RowKit
attribute [local irreducible] Calls

theorem cells_u8 : Try.prog.cellsOf 5 = 1 := by kernel_rfl
noncomputable def eqH : (Nat → Nat) → (Nat → Nat) → Bool := opq fun f g => decide (∀ j, j ∈ List.range 32 → f j = g j)
theorem eqH_def (f g : Nat → Nat) : eqH f g = decide (∀ j, j ∈ List.range 32 → f j = g j) := by unfold eqH; rw [opq_eq]
theorem eqH_self (f : Nat → Nat) : eqH f f = true := by rw [eqH_def]; simp
@[go_sem] theorem equalIn_hash (f g : Nat → Nat) (w : World) : (Op.equalIn 10000 36 (.agg (u8s 32 f).toArray) (.agg (u8s 32 g).toArray)).run Try.prog w = .ok (eqH f g) w := by
  have hp : ∀ (x : Nat → Nat) i, i < 32 → (part 5 (u8s 32 x).toArray i).run Try.prog w = .ok (.int .u8 (x i : Int)) w := fun x i hi => by
    have hagg : (isAgg 5).run Try.prog w = .ok false w := by
      unfold isAgg
      rw [Sem.run_bind, run_underlying Try.underlying5 w]
      rfl
    unfold part
    rw [Sem.run_bind, hagg]
    simp only [Result.andThen_ok, Bool.false_eq_true, if_false, List.getElem?_toArray, u8s_at hi]
    rfl
  have ho : ∃ i, Try.prog.info? 5 = some i := by
    cases h : Try.prog.info? 5 with
    | some i => exact ⟨i, rfl⟩
    | none => exact absurd (show (Try.prog.info? 5).isSome = true by kernel_rfl) (by rw [h]; decide)
  obtain ⟨i, hi⟩ := ho
  have hu : Try.prog.underlying 36 = some (.array 32 5) := Try.underlying36
  rw [show (10000 : Nat) = 9999 + 1 from rfl, run_equalIn_array w 9999 (u8s 32 f).toArray (u8s 32 g).toArray hu hi, cells_u8]
  have he : ∀ x y : Int, (Op.equalIn 9999 5 (.int .u8 x) (.int .u8 y)).run Try.prog w = .ok (x == y) w := fun x y => run_equalIn_int w 9998 5 .u8 .u8 x y Try.underlying5
  have key : ∀ is : List Nat, (∀ j, j ∈ is → j < 32) → (Op.eqItems 9999 5 1 (u8s 32 f).toArray (u8s 32 g).toArray is).run Try.prog w = .ok (decide (∀ j, j ∈ is → f j = g j)) w := by
    intro is
    induction is with
    | nil => intro _; simp [Op.eqItems]
    | cons j r ih =>
      intro hj
      have hj0 := hj j (.head _)
      have ih := ih fun k hk => hj k (.tail _ hk)
      simp only [Op.eqItems, Nat.mul_one, Sem.run_bind, hp f j hj0, hp g j hj0, Result.andThen_ok, he]
      by_cases e : f j = g j
      · simp [e, ih]
      · have : ¬ ((f j : Int) = (g j : Int)) := by omega
        simp [e, this]
  rw [key (List.range 32) (fun j hj => List.mem_range.1 hj), eqH_def]

/-! ### text -/
def digs : ByteArray := ⟨#[48, 49, 50, 51, 52, 53, 54, 55, 56, 57, 97, 98, 99, 100, 101, 102]⟩
def dig (d : Nat) : ByteArray := digs.extract d (d + 1)
/-- The digits of the first n bytes. -/
def textB (f : Nat → Nat) : Nat → ByteArray
  | 0 => ⟨#[]⟩
  | n + 1 => textB f n ++ dig (f n / 16) ++ dig (f n % 16)
theorem text_none : textB (fun i => (hashN []).getD i 0) 32 = ⟨#[101, 51, 98, 48, 99, 52, 52, 50, 57, 56, 102, 99, 49, 99, 49, 52, 57, 97, 102, 98, 102, 52, 99, 56, 57, 57, 54, 102, 98, 57, 50, 52, 50, 55, 97, 101, 52, 49, 101, 52, 54, 52, 57, 98, 57, 51, 52, 99, 97, 52, 57, 53, 57, 57, 49, 98, 55, 56, 53, 50, 98, 56, 53, 53]⟩ := by
  rw [hash_none]
  decide +kernel
theorem text_abc : textB (fun i => (hashN [97, 98, 99]).getD i 0) 32 = ⟨#[98, 97, 55, 56, 49, 54, 98, 102, 56, 102, 48, 49, 99, 102, 101, 97, 52, 49, 52, 49, 52, 48, 100, 101, 53, 100, 97, 101, 50, 50, 50, 51, 98, 48, 48, 51, 54, 49, 97, 51, 57, 54, 49, 55, 55, 97, 57, 99, 98, 52, 49, 48, 102, 102, 54, 49, 102, 50, 48, 48, 49, 53, 97, 100]⟩ := by
  rw [hash_abc]
  decide +kernel
theorem dig_size (d : Nat) (hd : d < 16) : (dig d).size = 1 := by
  have : ∀ d : Fin 16, (dig d.1).size = 1 := by decide +kernel
  exact this ⟨d, hd⟩
theorem textB_size (f : Nat → Nat) (hf : ∀ j, f j < 256) : ∀ n, (textB f n).size = 2 * n
  | 0 => rfl
  | n + 1 => by
    have h := hf n
    simp only [textB, ByteArray.size_append, textB_size f hf n, dig_size _ (show f n / 16 < 16 by omega), dig_size _ (show f n % 16 < 16 by omega)]
    omega
theorem dig_cut (d : Nat) (hd : d < 16) (w : World) : (Instr.sliceAt 9 (.string digs) (some (.int .u8 (d : Int))) (some (.int .u8 ((d + 1 : Nat) : Int))) none).run Try.prog w = .ok (.string (dig d)) w := by
  have hz : digs.size = 16 := by decide +kernel
  have : d = 0 ∨ d = 1 ∨ d = 2 ∨ d = 3 ∨ d = 4 ∨ d = 5 ∨ d = 6 ∨ d = 7 ∨ d = 8 ∨ d = 9 ∨ d = 10 ∨ d = 11 ∨ d = 12 ∨ d = 13 ∨ d = 14 ∨ d = 15 := by omega
  rcases this with rfl | rfl | rfl | rfl | rfl | rfl | rfl | rfl | rfl | rfl | rfl | rfl | rfl | rfl | rfl | rfl <;> (go_simp; first | done | rfl)
theorem string_add (x y : Operand) (s t u : ByteArray) (h : s.size + t.size < 4611686018427387904) (hu : s ++ t = u) (w : World) : (do eqGuard BinOp.add 9 x y (Value.string s) (Value.string t); binOp BinOp.add 9 (Value.string s) (Value.string t) : Sem Value).run Try.prog w = .ok (.string u) w := by
  subst hu
  have h2 : ¬ (((s.size + t.size : Nat) : Int) > IntKind.i64.max) := by
    show ¬ (((s.size + t.size : Nat) : Int) > 9223372036854775807)
    omega
  go_simp
  first | done | omega | (rw [if_neg (by omega)])
theorem and15 (x : Nat) (h : x < 256) : bits BinOp.and IntKind.u8 (x : Int) 15 = ((x % 16 : Nat) : Int) := by
  have := bits_mask .u8 8 (by decide) (fun n h0 h1 => by rw [IntKind.wrap_u8]; omega) 4 (by decide) (x : Int) (by omega) (by omega)
  simpa using this
set_option maxRecDepth 100000 in
set_option maxHeartbeats 1000000 in
theorem text_any (f : Nat → Nat) (hf : ∀ j, f j < 256) (w : World) : Calls Try.prog 26 #[.agg (u8s 32 f).toArray] w fun e w' => e = .returned (.string (textB f 32)) ∧ Below w.heap.size w w' := by
  have hR := Rep.init w
  go_enter Try.func26, Try.ntmps26
  go_wp2_with (first | (refine' wpList_boxRep hR rfl rfl rfl ?_; clear hR; intro blk w hR) | (refine' wpList_allocRep hR rfl rfl ?hT ?_; (case hT => exact inferInstance); clear hR; intro blk w hR) | (refine' wpList_loadAll hR rfl rfl rfl ?hT ?hm ?hn ?_; (case hT => exact inferInstance); (case hm => first | with_reducible assumption | repeat (first | exact List.Mem.head _ | apply List.Mem.tail)); (case hn => first | rfl | (simp; done))) | (refine' wpList_loadRow hR rfl rfl rfl ?hT ?hm ?hv ?hn ?_; (case hT => exact inferInstance); (case hm => first | with_reducible assumption | repeat (first | exact List.Mem.head _ | apply List.Mem.tail)); (case hv => first | with_reducible assumption | (simp only [List.drop_succ_cons, List.drop_zero, List.take_succ_cons, List.take_zero]; first | done | rfl)); (case hn => first | rfl | (simp; done))) | (refine' wpList_loadCell hR rfl rfl rfl ?hT ?hm ?hv ?_; (case hT => exact inferInstance); (case hm => first | with_reducible assumption | repeat (first | exact List.Mem.head _ | apply List.Mem.tail)); (case hv => first | rfl | with_reducible assumption)) | (refine' wpList_storeAll hR rfl rfl rfl ?hT rfl ?hs ?zone ?zvn ?hn ?_; (case hT => exact inferInstance); (case hs => repeat (first | exact SetAt.head | apply SetAt.tail)); (case zone => first | rfl | with_reducible assumption); (case zvn => first | rfl | (simp; done)); (case hn => first | rfl | (simp; done)); clear hR; intro w hR) | (refine' wpList_storeCell hR rfl rfl rfl ?hT rfl rfl ?hs ?hn ?hl ?_; (case hT => exact inferInstance); (case hs => repeat (first | exact SetAt.head | apply SetAt.tail)); (case hn => first | exact of_decide_eq_true rfl | (show _ < 4; with_reducible assumption) | (simp; done) | (simp; omega)); (case hl => first | with_reducible assumption | (simp only [List.set_cons_zero, List.set_cons_succ]; done) | (simp only [List.set_cons_zero, List.set_cons_succ]; rfl) | (simp only [nl, List.set_cons_zero, List.set_cons_succ]; done) | (simp only [nl, List.set_cons_zero, List.set_cons_succ]; rfl) | rfl); clear hR; intro w hR) | fail)
  rename_i K0 k0
  refine' loop_rep (false :: false :: false :: false :: false :: true :: true :: true :: true :: true :: true :: true :: true :: true :: true :: true :: true :: true :: true :: true :: true :: true :: true :: true :: true :: true :: true :: true :: true :: true :: true :: true :: false :: []) (fun j l => (l.set 3 (.string (textB f (32 - j)))).set 4 (.int .i64 ((32 : Int) - (j : Int)))) (fun j => [(blk, .cells (u8s 32 f).toArray 36)]) 32 ?h0 ?hR ?hs ?he
  case hR => exact hR
  case h0 => exact agree_of rfl rfl rfl
  case hs =>
    clear hR k0
    intro j tm w hj ht hR K hK
    obtain ⟨k, hk⟩ : ∃ k, 32 - (j + 1) = k := ⟨_, rfl⟩
    have e1 : (32 : Int) - ((j + 1 : Nat) : Int) = (k : Int) := by omega
    have e2 : (32 : Int) - (j : Int) = (k : Int) + 1 := by omega
    have e3 : 32 - j = k + 1 := by omega
    simp only [e2, e3] at hK
    rw [e1, hk] at ht
    have k32 : k < 32 := by omega
    clear e1 e2 e3 hk hj
    have g0 : 0 ≤ (k : Int) := by omega
    have g1 : (k : Int) < 32 := by omega
    have d1 := u8s_at (w := f) k32
    have hfk := hf k
    obtain ⟨p, hp⟩ : ∃ p, f k / 16 = p := ⟨_, rfl⟩
    obtain ⟨q, hq⟩ : ∃ q, f k % 16 = q := ⟨_, rfl⟩
    have hS : textB f (k + 1) = textB f k ++ dig p ++ dig q := by rw [← hp, ← hq]; rfl
    rw [hS] at hK
    have c1 := dig_cut p (by omega)
    have c2 := dig_cut q (by omega)
    have e1 : (f k : Int) / 16 = (p : Int) := by omega
    have e2 := and15 (f k) hfk
    rw [hq] at e2
    obtain ⟨p1, hp1⟩ : ∃ x, p + 1 = x := ⟨_, rfl⟩
    obtain ⟨q1, hq1⟩ : ∃ x, q + 1 = x := ⟨_, rfl⟩
    rw [hp1] at c1
    rw [hq1] at c2
    have e3 : IntKind.u8.wrap ((p : Int) + 1) = (p1 : Int) := by rw [IntKind.wrap_u8]; omega
    have e4 : IntKind.u8.wrap ((q : Int) + 1) = (q1 : Int) := by rw [IntKind.wrap_u8]; omega
    have hz := textB_size f hf k
    have z1 : (dig p).size = 1 := dig_size p (by omega)
    have z2 : (dig q).size = 1 := dig_size q (by omega)
    obtain ⟨S1, hS1⟩ : ∃ S1, textB f k ++ dig p = S1 := ⟨_, rfl⟩
    obtain ⟨S2, hS2⟩ : ∃ S2, S1 ++ dig q = S2 := ⟨_, rfl⟩
    have zS1 : S1.size = (textB f k).size + (dig p).size := by rw [← hS1]; simp [ByteArray.size_append]
    have a1 := fun x y w => string_add x y (textB f k) (dig p) S1 (by omega) hS1 w
    have a2 := fun x y w => string_add x y S1 (dig q) S2 (by omega) hS2 w
    rw [hS1, hS2] at hK
    clear hS hz z1 z2 hS1 hS2 zS1
    generalize dig p = dp at *
    generalize dig q = dq at *
    generalize textB f k = S at *
    generalize hfx : f k = fk at *
    replace hp := Held.mk hp
    replace hq := Held.mk hq
    replace hp1 := Held.mk hp1
    replace hq1 := Held.mk hq1
    replace hfx := Held.mk hfx
    unfold digs at c1 c2
    repeat (first | (obtain ⟨x, tm', e, ht'⟩ := agree_true ht; clear ht; subst e; have ht := ht'; clear ht') | (obtain ⟨tm', e, ht'⟩ := agree_false ht; clear ht; subst e; have ht := ht'; clear ht'))
    obtain rfl := agree_nil ht
    clear ht
    go_wp2_with (first | (refine' wpList_boxRep hR rfl rfl rfl ?_; clear hR; intro blk w hR) | (refine' wpList_allocRep hR rfl rfl ?hT ?_; (case hT => exact inferInstance); clear hR; intro blk w hR) | (refine' wpList_loadAll hR rfl rfl rfl ?hT ?hm ?hn ?_; (case hT => exact inferInstance); (case hm => first | with_reducible assumption | repeat (first | exact List.Mem.head _ | apply List.Mem.tail)); (case hn => first | rfl | (simp; done))) | (refine' wpList_loadRow hR rfl rfl rfl ?hT ?hm ?hv ?hn ?_; (case hT => exact inferInstance); (case hm => first | with_reducible assumption | repeat (first | exact List.Mem.head _ | apply List.Mem.tail)); (case hv => first | with_reducible assumption | (simp only [List.drop_succ_cons, List.drop_zero, List.take_succ_cons, List.take_zero]; first | done | rfl)); (case hn => first | rfl | (simp; done))) | (refine' wpList_loadCell hR rfl rfl rfl ?hT ?hm ?hv ?_; (case hT => exact inferInstance); (case hm => first | with_reducible assumption | repeat (first | exact List.Mem.head _ | apply List.Mem.tail)); (case hv => first | rfl | with_reducible assumption)) | (refine' wpList_storeAll hR rfl rfl rfl ?hT rfl ?hs ?zone ?zvn ?hn ?_; (case hT => exact inferInstance); (case hs => repeat (first | exact SetAt.head | apply SetAt.tail)); (case zone => first | rfl | with_reducible assumption); (case zvn => first | rfl | (simp; done)); (case hn => first | rfl | (simp; done)); clear hR; intro w hR) | (refine' wpList_storeCell hR rfl rfl rfl ?hT rfl rfl ?hs ?hn ?hl ?_; (case hT => exact inferInstance); (case hs => repeat (first | exact SetAt.head | apply SetAt.tail)); (case hn => first | exact of_decide_eq_true rfl | (show _ < 4; with_reducible assumption) | (simp; done) | (simp; omega)); (case hl => first | with_reducible assumption | (simp only [List.set_cons_zero, List.set_cons_succ]; done) | (simp only [List.set_cons_zero, List.set_cons_succ]; rfl) | (simp only [nl, List.set_cons_zero, List.set_cons_succ]; done) | (simp only [nl, List.set_cons_zero, List.set_cons_succ]; rfl) | rfl); clear hR; intro w hR) | fail)
    refine wp_region_ord hR [0, 0, 0, 0, 0, 0, 0, 0, 0, 0, 0, 0, 0, 0, 0, 0, 0, 0, 0, 0, 0, 0, 0, 2] [] mixed (by kernel_rfl) rfl rfl (fun K hK => ?_)
    clear hR
    repeat (first | (refine hd_tail ?_) | (refine' hd_move (by decide) rfl (.inl rfl) rfl ?ha ?_; (case ha => simp only [Act.put, List.setIfInBounds_toArray, List.set_cons_zero, List.set_cons_succ]; try rfl)) | (refine' hd_move (by decide) rfl (.inr rfl) rfl ?ha ?_; (case ha => simp only [Act.put, List.setIfInBounds_toArray, List.set_cons_zero, List.set_cons_succ]; try rfl)) | (refine' hd_loadAll rfl rfl rfl ?hT ?hm ?hn ?ha ?_; (case hT => exact inferInstance); (case hm => first | with_reducible assumption | repeat (first | exact List.Mem.head _ | apply List.Mem.tail)); (case hn => first | rfl | (simp; done)); (case ha => simp only [Act.put, List.setIfInBounds_toArray, List.set_cons_zero, List.set_cons_succ]; try rfl)) | (refine' hd_loadRow rfl rfl rfl ?hT ?hm ?hv ?hn ?ha ?_; (case hT => exact inferInstance); (case hm => first | with_reducible assumption | repeat (first | exact List.Mem.head _ | apply List.Mem.tail)); (case hv => first | with_reducible assumption | (simp only [List.drop_succ_cons, List.drop_zero, List.take_succ_cons, List.take_zero]; first | done | rfl)); (case hn => first | rfl | (simp; done)); (case ha => simp only [Act.put, List.setIfInBounds_toArray, List.set_cons_zero, List.set_cons_succ]; try rfl)) | (refine' hd_loadCell rfl rfl rfl ?hT ?hm ?hv ?ha ?_; (case hT => exact inferInstance); (case hm => first | with_reducible assumption | repeat (first | exact List.Mem.head _ | apply List.Mem.tail)); (case hv => first | rfl | with_reducible assumption); (case ha => simp only [Act.put, List.setIfInBounds_toArray, List.set_cons_zero, List.set_cons_succ]; try rfl)) | (refine' hd_keepRow rfl rfl rfl ?hT ?hm ?hv ?hn ?ha ?_; (case hT => exact inferInstance); (case hm => first | with_reducible assumption | repeat (first | exact List.Mem.head _ | apply List.Mem.tail)); (case hv => first | with_reducible assumption | (simp only [List.drop_succ_cons, List.drop_zero, List.take_succ_cons, List.take_zero]; first | done | rfl)); (case hn => first | rfl | (simp; done)); (case ha => simp only [Act.put, List.setIfInBounds_toArray, List.set_cons_zero, List.set_cons_succ]; try rfl)) | (refine' hd_keepCell rfl rfl rfl ?hT ?hm ?hv ?ha ?_; (case hT => exact inferInstance); (case hm => first | with_reducible assumption | repeat (first | exact List.Mem.head _ | apply List.Mem.tail)); (case hv => first | rfl | with_reducible assumption); (case ha => simp only [Act.put, List.setIfInBounds_toArray, List.set_cons_zero, List.set_cons_succ]; try rfl)) | (refine' hd_indexAddr (by decide) rfl rfl rfl rfl (fun w => ?hq) ?ha ?_; (case hq => go_simp; first | done | rfl); (case ha => simp only [Act.put, List.setIfInBounds_toArray, List.set_cons_zero, List.set_cons_succ]; try rfl)) | (refine' hd_binOp (by decide) rfl rfl rfl rfl (fun w => ?hq) ?ha ?_; (case hq => go_simp; first | done | rfl); (case ha => simp only [Act.put, List.setIfInBounds_toArray, List.set_cons_zero, List.set_cons_succ]; try rfl)) | (refine' hd_extract (by decide) rfl rfl rfl (fun w => ?hq) ?ha ?_; (case hq => go_simp; first | done | rfl); (case ha => simp only [Act.put, List.setIfInBounds_toArray, List.set_cons_zero, List.set_cons_succ]; try rfl)) | (refine' hd_nilCheck (by decide) rfl rfl rfl ?ha ?_; (case ha => simp only [Act.put, List.setIfInBounds_toArray, List.set_cons_zero, List.set_cons_succ]; try rfl)) | (refine' hd_fieldAddr (by decide) rfl rfl rfl (fun w => ?hq) ?ha ?_; (case hq => go_simp; first | done | rfl); (case ha => simp only [Act.put, List.setIfInBounds_toArray, List.set_cons_zero, List.set_cons_succ]; try rfl)) | (refine' hd_convert (by decide) rfl rfl rfl (fun w => ?hq) ?ha ?_; (case hq => go_simp; first | done | rfl); (case ha => simp only [Act.put, List.setIfInBounds_toArray, List.set_cons_zero, List.set_cons_succ]; try rfl)) | (refine' hd_index (by decide) rfl rfl rfl rfl (fun w => ?hq) ?ha ?_; (case hq => go_simp; first | done | rfl); (case ha => simp only [Act.put, List.setIfInBounds_toArray, List.set_cons_zero, List.set_cons_succ]; try rfl)) | (refine' hd_pick (by decide) rfl rfl rfl rfl ?ha ?_; (case ha => simp only [Act.put, List.setIfInBounds_toArray, List.set_cons_zero, List.set_cons_succ]; try rfl)) | (refine' hd_slice (by decide) rfl rfl rfl rfl rfl rfl (fun w => ?hq) ?ha ?_; (case hq => go_simp; first | done | rfl); (case ha => simp only [Act.put, List.setIfInBounds_toArray, List.set_cons_zero, List.set_cons_succ]; try rfl)) | (refine' hd_build (by decide) rfl rfl (fun w => ?hq) ?ha ?_; (case hq => go_simp; first | done | rfl); (case ha => simp only [Act.put, List.setIfInBounds_toArray, List.set_cons_zero, List.set_cons_succ]; try rfl)) | (refine' hd_arrayAt (by decide) rfl rfl rfl (fun w => ?hq) ?ha ?_; (case hq => go_simp; first | done | rfl); (case ha => simp only [Act.put, List.setIfInBounds_toArray, List.set_cons_zero, List.set_cons_succ]; try rfl)) | (refine' hd_field (by decide) rfl rfl rfl (fun w => ?hq) ?ha ?_; (case hq => go_simp; first | done | rfl); (case ha => simp only [Act.put, List.setIfInBounds_toArray, List.set_cons_zero, List.set_cons_succ]; try rfl)) | (refine' hd_skip (by decide) rfl ?ha ?_; (case ha => simp only [Act.put, List.setIfInBounds_toArray, List.set_cons_zero, List.set_cons_succ]; try rfl)) | (refine' hd_binOp (by decide) rfl rfl rfl rfl (fun w => a1 _ _ w) ?ha ?_; (case ha => simp only [Act.put, List.setIfInBounds_toArray, List.set_cons_zero, List.set_cons_succ]; try rfl)) | (refine' hd_binOp (by decide) rfl rfl rfl rfl (fun w => a2 _ _ w) ?ha ?_; (case ha => simp only [Act.put, List.setIfInBounds_toArray, List.set_cons_zero, List.set_cons_succ]; try rfl)))
    refine hd_nil (hK _ _ ?_)
    clear hK K
    refine tl_gen (fun Q hQ => ?_)
    try simp only [List.nil_append, List.cons_append]
    repeat (first | (refine' tl_move rfl (.inl rfl) rfl ?hk ?ha ?_; (case hk => intro p hp; first | exact absurd hp List.not_mem_nil | (obtain rfl := List.mem_singleton.1 hp; repeat (first | exact List.Mem.head _ | apply List.Mem.tail))); (case ha => simp only [Act.put, List.setIfInBounds_toArray, List.set_cons_zero, List.set_cons_succ]; try rfl)) | (refine' tl_move rfl (.inr rfl) rfl ?hk ?ha ?_; (case hk => intro p hp; first | exact absurd hp List.not_mem_nil | (obtain rfl := List.mem_singleton.1 hp; repeat (first | exact List.Mem.head _ | apply List.Mem.tail))); (case ha => simp only [Act.put, List.setIfInBounds_toArray, List.set_cons_zero, List.set_cons_succ]; try rfl)) | (refine' tl_storeAll rfl rfl rfl ?hT rfl ?hs rfl rfl ?hn ?hk ?ha ?_; (case hT => exact inferInstance); (case hs => repeat (first | exact SetAt.head | apply SetAt.tail)); (case hn => first | rfl | (simp; done)); (case hk => intro p hp; first | exact absurd hp List.not_mem_nil | (obtain rfl := List.mem_singleton.1 hp; repeat (first | exact List.Mem.head _ | apply List.Mem.tail))); (case ha => simp only [Act.put, List.setIfInBounds_toArray, List.set_cons_zero, List.set_cons_succ]; try rfl)) | (refine' tl_storeCell rfl rfl rfl ?hT rfl rfl ?hs ?hn ?hl ?hk ?ha ?_; (case hT => exact inferInstance); (case hs => repeat (first | exact SetAt.head | apply SetAt.tail)); (case hn => first | exact of_decide_eq_true rfl | (show _ < 4; with_reducible assumption) | (simp; done) | (simp; omega)); (case hl => first | with_reducible assumption | (simp only [List.set_cons_zero, List.set_cons_succ]; done) | (simp only [List.set_cons_zero, List.set_cons_succ]; rfl) | (simp only [nl, List.set_cons_zero, List.set_cons_succ]; done) | (simp only [nl, List.set_cons_zero, List.set_cons_succ]; rfl) | rfl); (case hk => intro p hp; first | exact absurd hp List.not_mem_nil | (obtain rfl := List.mem_singleton.1 hp; repeat (first | exact List.Mem.head _ | apply List.Mem.tail))); (case ha => simp only [Act.put, List.setIfInBounds_toArray, List.set_cons_zero, List.set_cons_succ]; try rfl)) | (refine' tl_storeRow rfl rfl rfl ?hT rfl rfl ?hvn ?hs ?hn ?hl ?hk ?ha ?_; (case hT => exact inferInstance); (case hvn => first | rfl | (simp; done)); (case hs => repeat (first | exact SetAt.head | apply SetAt.tail)); (case hn => first | exact of_decide_eq_true rfl | (show _ < 4; with_reducible assumption) | (simp; done) | (simp; omega)); (case hl => first | with_reducible assumption | (simp only [List.set_cons_zero, List.set_cons_succ]; done) | (simp only [List.set_cons_zero, List.set_cons_succ]; rfl) | (simp only [nl, List.set_cons_zero, List.set_cons_succ]; done) | (simp only [nl, List.set_cons_zero, List.set_cons_succ]; rfl) | rfl); (case hk => intro p hp; first | exact absurd hp List.not_mem_nil | (obtain rfl := List.mem_singleton.1 hp; repeat (first | exact List.Mem.head _ | apply List.Mem.tail))); (case ha => simp only [Act.put, List.setIfInBounds_toArray, List.set_cons_zero, List.set_cons_succ]; try rfl)) | (refine' tl_pure rfl (fun w => ?hq) ?hk ?ha ?_; (case hq => go_simp; first | done | rfl); (case hk => intro p hp; first | exact absurd hp List.not_mem_nil | (obtain rfl := List.mem_singleton.1 hp; repeat (first | exact List.Mem.head _ | apply List.Mem.tail))); (case ha => simp only [Act.put, List.setIfInBounds_toArray, List.set_cons_zero, List.set_cons_succ]; try rfl)))
    refine tl_nil (fun w hR => hQ _ _ ?_)
    clear hQ Q
    go_wp2_with (first | (refine' wpList_boxRep hR rfl rfl rfl ?_; clear hR; intro blk w hR) | (refine' wpList_allocRep hR rfl rfl ?hT ?_; (case hT => exact inferInstance); clear hR; intro blk w hR) | (refine' wpList_loadAll hR rfl rfl rfl ?hT ?hm ?hn ?_; (case hT => exact inferInstance); (case hm => first | with_reducible assumption | repeat (first | exact List.Mem.head _ | apply List.Mem.tail)); (case hn => first | rfl | (simp; done))) | (refine' wpList_loadRow hR rfl rfl rfl ?hT ?hm ?hv ?hn ?_; (case hT => exact inferInstance); (case hm => first | with_reducible assumption | repeat (first | exact List.Mem.head _ | apply List.Mem.tail)); (case hv => first | with_reducible assumption | (simp only [List.drop_succ_cons, List.drop_zero, List.take_succ_cons, List.take_zero]; first | done | rfl)); (case hn => first | rfl | (simp; done))) | (refine' wpList_loadCell hR rfl rfl rfl ?hT ?hm ?hv ?_; (case hT => exact inferInstance); (case hm => first | with_reducible assumption | repeat (first | exact List.Mem.head _ | apply List.Mem.tail)); (case hv => first | rfl | with_reducible assumption)) | (refine' wpList_storeAll hR rfl rfl rfl ?hT rfl ?hs ?zone ?zvn ?hn ?_; (case hT => exact inferInstance); (case hs => repeat (first | exact SetAt.head | apply SetAt.tail)); (case zone => first | rfl | with_reducible assumption); (case zvn => first | rfl | (simp; done)); (case hn => first | rfl | (simp; done)); clear hR; intro w hR) | (refine' wpList_storeCell hR rfl rfl rfl ?hT rfl rfl ?hs ?hn ?hl ?_; (case hT => exact inferInstance); (case hs => repeat (first | exact SetAt.head | apply SetAt.tail)); (case hn => first | exact of_decide_eq_true rfl | (show _ < 4; with_reducible assumption) | (simp; done) | (simp; omega)); (case hl => first | with_reducible assumption | (simp only [List.set_cons_zero, List.set_cons_succ]; done) | (simp only [List.set_cons_zero, List.set_cons_succ]; rfl) | (simp only [nl, List.set_cons_zero, List.set_cons_succ]; done) | (simp only [nl, List.set_cons_zero, List.set_cons_succ]; rfl) | rfl); clear hR; intro w hR) | fail)
    exact hK.out _ _ (agree_of rfl rfl rfl) hR
  case he =>
    clear hR
    intro tm w ht hR K
    simp only [Int.natCast_zero, Int.sub_zero, Nat.sub_zero] at ht
    generalize hSS : textB f 32 = S at *
    replace hSS := Held.mk hSS
    repeat (first | (obtain ⟨x, tm', e, ht'⟩ := agree_true ht; clear ht; subst e; have ht := ht'; clear ht') | (obtain ⟨tm', e, ht'⟩ := agree_false ht; clear ht; subst e; have ht := ht'; clear ht'))
    obtain rfl := agree_nil ht
    clear ht
    go_wp2_with (first | (refine' wpList_boxRep hR rfl rfl rfl ?_; clear hR; intro blk w hR) | (refine' wpList_allocRep hR rfl rfl ?hT ?_; (case hT => exact inferInstance); clear hR; intro blk w hR) | (refine' wpList_loadAll hR rfl rfl rfl ?hT ?hm ?hn ?_; (case hT => exact inferInstance); (case hm => first | with_reducible assumption | repeat (first | exact List.Mem.head _ | apply List.Mem.tail)); (case hn => first | rfl | (simp; done))) | (refine' wpList_loadRow hR rfl rfl rfl ?hT ?hm ?hv ?hn ?_; (case hT => exact inferInstance); (case hm => first | with_reducible assumption | repeat (first | exact List.Mem.head _ | apply List.Mem.tail)); (case hv => first | with_reducible assumption | (simp only [List.drop_succ_cons, List.drop_zero, List.take_succ_cons, List.take_zero]; first | done | rfl)); (case hn => first | rfl | (simp; done))) | (refine' wpList_loadCell hR rfl rfl rfl ?hT ?hm ?hv ?_; (case hT => exact inferInstance); (case hm => first | with_reducible assumption | repeat (first | exact List.Mem.head _ | apply List.Mem.tail)); (case hv => first | rfl | with_reducible assumption)) | (refine' wpList_storeAll hR rfl rfl rfl ?hT rfl ?hs ?zone ?zvn ?hn ?_; (case hT => exact inferInstance); (case hs => repeat (first | exact SetAt.head | apply SetAt.tail)); (case zone => first | rfl | with_reducible assumption); (case zvn => first | rfl | (simp; done)); (case hn => first | rfl | (simp; done)); clear hR; intro w hR) | (refine' wpList_storeCell hR rfl rfl rfl ?hT rfl rfl ?hs ?hn ?hl ?_; (case hT => exact inferInstance); (case hs => repeat (first | exact SetAt.head | apply SetAt.tail)); (case hn => first | exact of_decide_eq_true rfl | (show _ < 4; with_reducible assumption) | (simp; done) | (simp; omega)); (case hl => first | with_reducible assumption | (simp only [List.set_cons_zero, List.set_cons_succ]; done) | (simp only [List.set_cons_zero, List.set_cons_succ]; rfl) | (simp only [nl, List.set_cons_zero, List.set_cons_succ]; done) | (simp only [nl, List.set_cons_zero, List.set_cons_succ]; rfl) | rfl); clear hR; intro w hR) | fail)
    go_ret
    exact ⟨by rw [hSS.out]; rfl, hR.below⟩
end Go.Proofs.Ytllmpiamcghboaa
