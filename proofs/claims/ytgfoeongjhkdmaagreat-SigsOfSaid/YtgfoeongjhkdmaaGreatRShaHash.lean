/- The contract of (*Sum).Hash. -/
import Derived.Test.YtgfoeongjhkdmaaGreatRC
set_option linter.unusedVariables false
set_option linter.unusedSimpArgs false
namespace Go.Proofs.YtgfoeongjhkdmaaGreat
open Go.RowKit
attribute [local irreducible] Calls
instance inShaHash1 : RowT Tryz.prog 28 32 := .mk' (by kernel_rfl) (by kernel_rfl)
instance inShaHash2 : RowT Tryz.prog 116 74 := .mk' (by kernel_rfl) (by kernel_rfl)
instance inShaHash3 : ZeroT Tryz.prog 28 (u8s 32 fun _ => 0) := ⟨.agg (u8s 32 fun _ => 0).toArray, by rw [xCu]; kernel_rfl, rfl⟩
noncomputable def zeroSum : List Value := opq (.int .i64 0 :: (s8L zeroS ++ (u8s 64 (fun _ => 0) ++ [.int .u64 0])))
theorem zeroSum_def : zeroSum = .int .i64 0 :: (s8L zeroS ++ (u8s 64 (fun _ => 0) ++ [.int .u64 0])) := by unfold zeroSum; rw [xCe]
@[simp] theorem zeroSum_length : zeroSum.length = 74 := by rw [zeroSum_def]; simp [xCb]
instance inShaHash4 : ZeroT Tryz.prog 116 zeroSum := ⟨.agg zeroSum.toArray, by rw [zeroSum_def, xCu]; kernel_rfl, rfl⟩
theorem sumL_one (h : S8) (r : Nat → Nat) (n : Nat) : (sumL h r n).all (·.oneCell') = true := by
  rw [xDd]
  simp only [List.all_cons, List.all_append, u8s_one, s8L_one]
  rfl
theorem info_u8 : (Tryz.prog.info? 5).map (fun i => (i.zero, i.size, i.bytes)) = some (some (.int .u8 0), 1, 1) := by kernel_rfl
noncomputable def tailF (n : Nat) : Nat → Nat := opq fun j => (tailN n).getD j 0
theorem tailF_def (n j : Nat) : tailF n j = (tailN n).getD j 0 := by unfold tailF; rw [xCe]
theorem tailF_head (n : Nat) : tailF n 0 = 128 := by rw [tailF_def]; rfl
theorem tailF_gap (n : Nat) {i : Nat} (h : i < gapN n) : tailF n (1 + i) = 0 := by
  rw [tailF_def, tailN, show 1 + i = i + 1 by omega, List.getD_eq_getElem?_getD, List.getElem?_cons_succ, List.getElem?_append_left (by simpa using h)]
  simp [h]
theorem be8_at (n : Nat) {i : Nat} (h : i < 8) : (be8 n).getD i 0 = n / 2 ^ (56 - 8 * i) % 256 := by
  have : i = 0 ∨ i = 1 ∨ i = 2 ∨ i = 3 ∨ i = 4 ∨ i = 5 ∨ i = 6 ∨ i = 7 := by omega
  rcases this with rfl | rfl | rfl | rfl | rfl | rfl | rfl | rfl <;> first | rfl | (simp [be8])
theorem tailF_len (n : Nat) {i : Nat} (h : i < 8) : tailF n (1 + gapN n + i) = (8 * n % 18446744073709551616) / 2 ^ (56 - 8 * i) % 256 := by
  rw [tailF_def, tailN, show 1 + gapN n + i = (gapN n + i) + 1 by omega, List.getD_eq_getElem?_getD, List.getElem?_cons_succ, List.getElem?_append_right (by simp)]
  simp only [List.length_replicate, Nat.add_sub_cancel_left]
  rw [← List.getD_eq_getElem?_getD, be8_at _ h]
theorem tailN_byte (n : Nat) : ∀ j, (tailN n).getD j 0 < 256 := fun j => by
  rw [List.getD_eq_getElem?_getD]
  cases h : (tailN n)[j]? with
  | none => decide
  | some x =>
    have hm := List.mem_of_getElem? h
    simp only [tailN, be8, List.mem_cons, List.mem_append, List.mem_replicate, List.not_mem_nil, or_false] at hm
    show x < 256
    rcases hm with rfl | ⟨_, rfl⟩ | rfl | rfl | rfl | rfl | rfl | rfl | rfl | rfl <;> omega
theorem u8s_succ (n : Nat) (x : Nat → Nat) : u8s (n + 1) x = u8s n x ++ [.int .u8 (x n : Int)] := by
  rw [xCu, xCu, List.range_succ, List.map_append]
  rfl
theorem xCw (v : Int) (w : World) : (Instr.buildSlice 49 1 #[(0, .int .u8 v)]).run Tryz.prog w = .ok (.slice (some ⟨w.heap.size, 0, none⟩) 1 1) (w.alloc (.cells [Value.int .u8 v].toArray 5)) := by go_simp
theorem make_end (w : World) : (Instr.makeSlice 49 (.int .i64 1) (.int .i64 64)).run Tryz.prog w = .ok (.slice (some ⟨w.heap.size, 0, none⟩) 1 64) (w.alloc (.cells (List.replicate 64 (Value.int .u8 0)).toArray 5)) := by
  obtain ⟨i0, hi, hz0, hz1, hz2⟩ := info_parts info_u8
  rw [run_makeSlice (P := Tryz.prog) w 49 5 i0 (.int .u8 0) Tryz.underlying49 hi hz0 .i64 .i64 _ _ (by decide) (by decide) (by rw [hz1]; decide) (by rw [hz2]; decide) (by decide)]
  rw [hz1]
  have e : madeCells (Value.int .u8 0).cells 64 = (List.replicate 64 (Value.int .u8 0)).toArray := by kernel_rfl
  rw [← e]
  rfl
noncomputable def byRow (h : S8) (i : Nat) : List Value := u8s 32 fun j => if j < i then byteN h j else 0
@[simp] theorem byRow_length (h : S8) (i : Nat) : (byRow h i).length = 32 := xCr _ _
theorem byRow_set (h : S8) {i x : Nat} (hx : byteN h i = x) : (byRow h i).set i (.int .u8 (x : Int)) = byRow h (i + 1) := by
  unfold byRow
  refine u8s_set (by rw [if_pos (by omega), hx]) fun j _ hj => ?_
  by_cases h' : j < i
  · rw [if_pos h', if_pos (by omega)]
  · rw [if_neg h', if_neg (by omega)]
theorem hash_row (m : List Nat) : (u8s 32 fun i => (hashN m).getD i 0) = byRow (xBv (padN m) ((padN m).length / 64)) 32 := by
  refine u8s_congr fun j hj => ?_
  rw [if_pos hj]
  unfold hashN bytesN
  simp [List.getD_eq_getElem?_getD, hj]
theorem sumL_word (h : S8) (r : Nat → Nat) (n : Nat) {p : Nat} (hp : p < 8) : (sumL h r n)[1 + p]? = some (.int .u32 (getF h p : Int)) := by
  rw [xDd, show 1 + p = p + 1 by omega, List.getElem?_cons_succ, List.getElem?_append_left (by rw [xCb]; omega), s8L_row, u32s_at hp]
structure Buf where
  i : Nat
  g : Nat
  cap : Nat
  cur : List Value
structure BufOk (n : Nat) (x : Nat → Nat) (b : Buf) : Prop where
  le : n ≤ b.cap
  big : b.cap ≤ maxLen
  len : b.cur.length = b.cap
  is : b.cur.take n = u8s n x
set_option maxRecDepth 100000 in
set_option maxHeartbeats 4000000 in
theorem hash_any {B0 : Nat} {w0 w : World} {L : List (Nat × Obj)} (sb : Nat) (m : List Nat) (r : Nat → Nat) (hr : xDm m r) (hbig : m.length < 100000000000)
    (hR : Rep B0 w0 ((sb, sumC m r) :: L) w) :
    Calls Tryz.prog 88 #[.pointer (some ⟨sb, 0, none⟩)] w fun e w' => e = .returned (.agg (u8s 32 fun i => (hashN m).getD i 0).toArray) ∧ Rep B0 w0 ((sb, sumC m r) :: L) w' := by
  obtain ⟨i0, hi, hz0, hz1, hz2⟩ := info_parts info_u8
  obtain ⟨N, hN⟩ : ∃ N, m.length = N := ⟨_, rfl⟩
  obtain ⟨m8, hm8⟩ : ∃ x, 8 * N % 18446744073709551616 = x := ⟨_, rfl⟩
  have s0 := sumL_made (xBv m (m.length / 64)) r N
  have s1 := sumL_many (xBv m (m.length / 64)) r N
  have s2 := sumL_one (xBv m (m.length / 64)) r N
  unfold sumC at hR
  rw [hN] at hR
  have hbl : ∃ h, xBv m (m.length / 64) = h := ⟨_, rfl⟩
  obtain ⟨h, hbl⟩ := hbl
  rw [hbl] at s0 s1 s2
  rw [hN] at hbl
  rw [hbl] at hR
  have f1 : IntKind.u64.wrap (8 * (N : Int)) = (m8 : Int) := by rw [IntKind.wrap_u64]; omega
  have hset : (List.replicate 64 (Value.int .u8 0)).set 0 (.int .u8 128) = .int .u8 128 :: List.replicate 63 (Value.int .u8 0) := rfl
  replace hm8 := Held.mk hm8
  replace hN := Held.mk hN
  replace hbl := Held.mk hbl
  go_enter Tryz.func88, Tryz.ntmps88
  go_wp2_with (first | (refine' xAb hR rfl rfl rfl ?_; clear hR; intro blk w hR) | (refine' xAa hR rfl rfl inferInstance ?_; clear hR; intro blk w hR) | (refine' aAq hR rfl rfl rfl inferInstance ?_) | (refine' aBq hR rfl rfl rfl inferInstance ?_) | (refine' aCq hR rfl rfl rfl inferInstance ?_) | (refine' aDq hR rfl rfl rfl inferInstance rfl ?_; clear hR; intro w hR) | (refine' aEq hR rfl rfl rfl inferInstance rfl rfl ?_; clear hR; intro w hR) | (refine' xAy hR rfl rfl rfl inferInstance ?hm ?hn ?_; (case hm => first | with_reducible assumption | repeat (first | exact .head _ | apply mT)); (case hn => first | rfl | simp)) | (refine' xAt hR rfl rfl rfl inferInstance ?hm ?hv ?_; (case hm => first | with_reducible assumption | repeat (first | exact .head _ | apply mT)); (case hv => first | rfl | with_reducible assumption)) | (refine' wpList_makeRep hR rfl rfl rfl rfl make_end ?_; clear hR; intro blk w hR))
  (first | (rename_i b2; change Nat at b2) | (rename_i b2 _; change Nat at b2) | (rename_i b2 _ _; change Nat at b2) | (rename_i b2 _ _ _; change Nat at b2) | (rename_i b2 _ _ _ _; change Nat at b2) | (rename_i b2 _ _ _ _ _; change Nat at b2) | (rename_i b2 _ _ _ _ _ _; change Nat at b2) | (rename_i b2 _ _ _ _ _ _ _; change Nat at b2) | (rename_i b2 _ _ _ _ _ _ _ _; change Nat at b2) | (rename_i b2 _ _ _ _ _ _ _ _ _; change Nat at b2) | (rename_i b2 _ _ _ _ _ _ _ _ _ _; change Nat at b2) | (rename_i b2 _ _ _ _ _ _ _ _ _ _ _; change Nat at b2) | (rename_i b2 _ _ _ _ _ _ _ _ _ _ _ _; change Nat at b2) | (rename_i b2 _ _ _ _ _ _ _ _ _ _ _ _ _; change Nat at b2))
  (first | (rename_i b1; change Nat at b1) | (rename_i b1 _; change Nat at b1) | (rename_i b1 _ _; change Nat at b1) | (rename_i b1 _ _ _; change Nat at b1) | (rename_i b1 _ _ _ _; change Nat at b1) | (rename_i b1 _ _ _ _ _; change Nat at b1) | (rename_i b1 _ _ _ _ _ _; change Nat at b1) | (rename_i b1 _ _ _ _ _ _ _; change Nat at b1) | (rename_i b1 _ _ _ _ _ _ _ _; change Nat at b1) | (rename_i b1 _ _ _ _ _ _ _ _ _; change Nat at b1) | (rename_i b1 _ _ _ _ _ _ _ _ _ _; change Nat at b1) | (rename_i b1 _ _ _ _ _ _ _ _ _ _ _; change Nat at b1) | (rename_i b1 _ _ _ _ _ _ _ _ _ _ _ _; change Nat at b1) | (rename_i b1 _ _ _ _ _ _ _ _ _ _ _ _ _; change Nat at b1))
  have hp : ∀ (a : Act), a.put none undef = a := fun _ => rfl
  rw [hp]
  clear hp
  have ga := gap_fits N
  refine' xCc (false :: false :: false :: false :: false :: false :: false :: false :: false :: false :: false :: false :: false :: false :: false :: false :: false :: false :: false :: false :: false :: false :: false :: false :: false :: false :: false :: false :: false :: true :: true :: true :: true :: true :: true :: true :: true :: true :: true :: true :: true :: true :: false :: false :: false :: false :: false :: false :: false :: false :: false :: false :: false :: false :: false :: false :: false :: false :: false :: false :: false :: false :: false :: false :: false :: false :: false :: false :: false :: false :: false :: false :: false :: false :: false :: []) (fun (x : Buf) l => l.set 5 (.slice (some ⟨x.g, 0, none⟩) x.i x.cap)) (fun x => (x.g, .cells x.cur.toArray 5) :: (b2, .cells (sumL h r N).toArray 116) :: (b1, .cells (u8s 32 fun _ => 0).toArray 28) :: (sb, .cells (sumL h r N).toArray 116) :: L) (fun x => 1 + gapN N - x.i) (fun x => (1 ≤ x.i ∧ x.i ≤ 1 + gapN N) ∧ BufOk x.i (tailF N) x) ⟨1, blk, 64, .int .u8 128 :: List.replicate 63 (Value.int .u8 0)⟩ ?h0 ?hO ?hR ?hs
  case h0 => exact xAu rfl rfl rfl
  case hO =>
    refine ⟨⟨Nat.le_refl _, by show 1 ≤ 1 + gapN N; omega⟩, by show 1 ≤ 64; omega, by unfold maxLen; show 64 ≤ _; omega, by simp, ?_⟩
    show [Value.int .u8 128] = _
    rw [xCu]
    show _ = [Value.int .u8 ((tailF N 0 : Nat) : Int)]
    rw [tailF_head]
    rfl
  case hR => exact hR
  case hs =>
    clear hR
    intro x tm w hO ht hR K hK
    obtain ⟨n, g, cap, cur⟩ := x
    obtain ⟨⟨h1n, hn1⟩, ⟨ble, bbig, blen, bis⟩⟩ := hO
    simp only at h1n hn1 ble bbig blen bis ht hR
    obtain ⟨Nn, hNn⟩ : ∃ x, N + n = x := ⟨_, rfl⟩
    obtain ⟨q, hq⟩ : ∃ x, Nn % 64 = x := ⟨_, rfl⟩
    have e1 : IntKind.u64.wrap (n : Int) = (n : Int) := by rw [IntKind.wrap_u64]; unfold gapN at hn1; omega
    have e2 : IntKind.u64.wrap ((N : Int) + (n : Int)) = (Nn : Int) := by rw [IntKind.wrap_u64]; unfold gapN at hn1; have := hN.out; omega
    have e3 : (Nn : Int).tmod 64 = (q : Int) := by rw [Int.tmod_eq_emod_of_nonneg (by omega)]; omega
    have e4 : (Nn : Int) % 64 = (q : Int) := by omega
    have hq56 : q = 56 ↔ n = 1 + gapN N := by unfold gapN at hn1 ⊢; omega
    have gap64 : gapN N < 64 := by unfold gapN; omega
    by_cases hlast : n = 1 + gapN N
    · have t1 : ((q : Int) != 56) = false := by
        have := hq56.2 hlast
        simp; omega
      clear hK hq56
      replace hNn := Held.mk hNn
      replace hq := Held.mk hq
      obtain ⟨n0, hn0⟩ : ∃ n0, n0 = n := ⟨_, rfl⟩
      subst hn0
      replace hlast := Held.mk hlast
      replace bis := Held.mk bis
      repeat (first | (obtain ⟨x, tm', e, ht'⟩ := xAf ht; clear ht; subst e; have ht := ht'; clear ht') | (obtain ⟨tm', e, ht'⟩ := xAc ht; clear ht; subst e; have ht := ht'; clear ht'))
      obtain rfl := xAk ht
      clear ht
      go_wp2_with (first | (refine' xAb hR rfl rfl rfl ?_; clear hR; intro blk w hR) | (refine' xAa hR rfl rfl inferInstance ?_; clear hR; intro blk w hR) | (refine' aAq hR rfl rfl rfl inferInstance ?_) | (refine' aBq hR rfl rfl rfl inferInstance ?_) | (refine' aCq hR rfl rfl rfl inferInstance ?_) | (refine' aDq hR rfl rfl rfl inferInstance rfl ?_; clear hR; intro w hR) | (refine' aEq hR rfl rfl rfl inferInstance rfl rfl ?_; clear hR; intro w hR) | fail)
      clear t1
      refine' xCc (false :: false :: false :: false :: false :: false :: true :: false :: false :: false :: false :: false :: false :: false :: false :: false :: false :: false :: false :: false :: false :: false :: false :: false :: false :: false :: false :: false :: false :: false :: false :: false :: false :: false :: false :: false :: false :: false :: false :: false :: false :: false :: false :: true :: true :: true :: true :: true :: true :: true :: true :: true :: true :: true :: true :: false :: false :: false :: false :: false :: false :: false :: false :: false :: false :: false :: false :: false :: false :: false :: false :: false :: false :: false :: false :: []) (fun (x : Buf) l => (l.set 5 (.slice (some ⟨x.g, 0, none⟩) x.i x.cap)).set 42 (.int .i64 ((x.i : Int) - (n0 : Nat)))) (fun x => (x.g, .cells x.cur.toArray 5) :: (b2, .cells (sumL h r N).toArray 116) :: (b1, .cells (u8s 32 fun _ => 0).toArray 28) :: (sb, .cells (sumL h r N).toArray 116) :: L) (fun x => 8 + n0 - x.i) (fun x => (n0 ≤ x.i ∧ x.i ≤ 8 + n0) ∧ BufOk x.i (tailF N) x) ⟨n0, g, cap, cur⟩ ?h0 ?hO ?hR ?hs
      case h0 =>
        simp only [Int.sub_self]
        exact xAu rfl rfl rfl
      case hO => exact ⟨⟨Nat.le_refl _, by show n0 ≤ 8 + n0; omega⟩, ble, bbig, blen, bis.out⟩
      case hR => exact hR
      case hs =>
        clear hR ble bbig blen bis
        intro x tm w hO ht hR K hK
        obtain ⟨n, g, cap, cur⟩ := x
        obtain ⟨⟨h1n, hn1⟩, ⟨ble, bbig, blen, bis⟩⟩ := hO
        simp only at h1n hn1 ble bbig blen bis ht hR
        obtain ⟨k, hk⟩ : ∃ k, n = n0 + k := ⟨n - n0, by omega⟩
        have ek : (n : Int) - (n0 : Nat) = (k : Int) := by omega
        rw [ek] at ht
        have g0 : 0 ≤ (k : Int) := by omega
        by_cases hl8 : k = 8
        · have t1 : ¬ (k : Int) < 8 := by omega
          obtain rfl : n = (tailN N).length := by rw [tailN_length]; have := hlast.out; omega
          subst hl8
          have e8 : ((8 : Nat) : Int) = 8 := rfl
          rw [e8] at ht t1
          clear t1 e8
          clear hK
          clear ek g0 h1n hn1
          replace hk := Held.mk hk
          have bis' : cur.take (tailN N).length = u8s (tailN N).length (tailF N) := bis
          clear bis
          obtain ⟨T, hT⟩ : ∃ T, tailN N = T := ⟨_, rfl⟩
          have hTb : ∀ j, T.getD j 0 < 256 := fun j => by rw [← hT]; exact tailN_byte N j
          have hTf : ∀ j, tailF N j = T.getD j 0 := fun j => by rw [← hT]; exact tailF_def N j
          have hTl : T.length = 9 + gapN N := by rw [← hT]; exact tailN_length N
          rw [hT] at bis' ht ble
          have hsrc : ∀ w, Rep B0 w0 ((g, .cells cur.toArray 5) :: (b1, .cells (u8s 32 fun _ => 0).toArray 28) :: (sb, .cells (sumL h r N).toArray 116) :: L) w → ∀ j, j < T.length → w.cell? ⟨g, 0 + j, none⟩ = some (.int .u8 (T.getD j 0 : Nat)) := fun w hw j hj => by
            rw [Nat.zero_add]
            refine hw.cell (.head _) ?_
            have := u8s_at (w := tailF N) hj
            rw [← bis', List.getElem?_take, if_pos hj, hTf] at this
            exact this
          have cw := fun (w : World) (hw : Rep B0 w0 ((b2, sumC m r) :: (g, .cells cur.toArray 5) :: (b1, .cells (u8s 32 fun _ => 0).toArray 28) :: (sb, .cells (sumL h r N).toArray 116) :: L) w) => writes_some b2 m T r g 0 cap hTb hr (by omega) ble bbig hw hsrc
          have hps : padN m = m ++ T := by unfold padN; rw [hN.out, hT]
          replace hR := hR.swap'
          have hR2 : Rep B0 w0 ((b2, sumC m r) :: (g, .cells cur.toArray 5) :: (b1, .cells (u8s 32 fun _ => 0).toArray 28) :: (sb, .cells (sumL h r N).toArray 116) :: L) w := by
            unfold sumC
            rw [hN.out, hbl.out]
            exact hR
          clear hR
          have hR := hR2
          clear hR2 hT hTf hTb hsrc bis' hTl
          repeat (first | (obtain ⟨x, tm', e, ht'⟩ := xAf ht; clear ht; subst e; have ht := ht'; clear ht') | (obtain ⟨tm', e, ht'⟩ := xAc ht; clear ht; subst e; have ht := ht'; clear ht'))
          obtain rfl := xAk ht
          clear ht
          go_wp2_with (first | (refine' xAb hR rfl rfl rfl ?_; clear hR; intro blk w hR) | (refine' xAa hR rfl rfl inferInstance ?_; clear hR; intro blk w hR) | (refine' aAq hR rfl rfl rfl inferInstance ?_) | (refine' aBq hR rfl rfl rfl inferInstance ?_) | (refine' aCq hR rfl rfl rfl inferInstance ?_) | (refine' aDq hR rfl rfl rfl inferInstance rfl ?_; clear hR; intro w hR) | (refine' aEq hR rfl rfl rfl inferInstance rfl rfl ?_; clear hR; intro w hR) | (go_at_call 105; refine (cw _ hR).mono ?_; clear hR; rintro e w ⟨rfl, r', htl, hR⟩))
          obtain ⟨hf, hhf⟩ : ∃ hf, xBv (m ++ T) ((m ++ T).length / 64) = hf := ⟨_, rfl⟩
          obtain ⟨nn, hnn⟩ : ∃ nn, (m ++ T).length = nn := ⟨_, rfl⟩
          have hres := hash_row m
          rw [hps, hhf] at hres
          unfold sumC at hR
          rw [hhf, hnn] at hR
          have hfok : hf.ok := by rw [← hhf]; exact blocksN_ok _ _
          replace hhf := Held.mk hhf
          replace hnn := Held.mk hnn
          replace hres := Held.mk hres
          clear cw htl hps
          refine' xCa (false :: false :: false :: false :: false :: false :: false :: true :: false :: false :: false :: false :: false :: false :: false :: false :: false :: false :: false :: false :: false :: false :: false :: false :: false :: false :: false :: false :: false :: false :: false :: false :: false :: false :: false :: false :: false :: false :: false :: false :: false :: false :: false :: false :: false :: false :: false :: false :: false :: false :: false :: false :: false :: false :: false :: false :: false :: false :: true :: true :: true :: true :: true :: true :: true :: true :: true :: true :: true :: true :: true :: true :: true :: true :: false :: []) (fun j l => l.set 57 (.int .i64 ((32 : Int) - (j : Int)))) (fun j => (b2, .cells (sumL hf r' nn).toArray 116) :: (g, .cells cur.toArray 5) :: (b1, .cells (byRow hf (32 - j)).toArray 28) :: (sb, .cells (sumL h r N).toArray 116) :: L) 32 ?h0 ?hR ?hs ?he
          case hR => exact hR
          case h0 => exact xAu rfl rfl rfl
          case hs =>
            clear hR
            intro j tm w hj ht hR K hK
            repeat (first | (obtain ⟨x, tm', e, ht'⟩ := xAf ht; clear ht; subst e; have ht := ht'; clear ht') | (obtain ⟨tm', e, ht'⟩ := xAc ht; clear ht; subst e; have ht := ht'; clear ht'))
            obtain rfl := xAk ht
            clear ht
            obtain ⟨k, hk⟩ : ∃ k, 32 - (j + 1) = k := ⟨_, rfl⟩
            have e1 : (32 : Int) - ((j + 1 : Nat) : Int) = (k : Int) := by omega
            have e2 : (32 : Int) - (j : Int) = (k : Int) + 1 := by omega
            have e3 : 32 - j = k + 1 := by omega
            rw [hk] at hR
            simp only [e2, e3] at hK
            rw [e1]
            have k32 : k < 32 := by omega
            clear e1 e2 e3 hk hj
            have g0 : 0 ≤ (k : Int) := by omega
            have g1 : (k : Int) < 32 := by omega
            obtain ⟨p, hp⟩ : ∃ p, k / 4 = p := ⟨_, rfl⟩
            obtain ⟨q, hq'⟩ : ∃ q, k % 4 = q := ⟨_, rfl⟩
            obtain ⟨q8, hq8⟩ : ∃ x, q * 8 = x := ⟨_, rfl⟩
            obtain ⟨sh, hsh⟩ : ∃ x, 24 - q8 = x := ⟨_, rfl⟩
            have e1 : (k : Int) / 4 = (p : Int) := by omega
            have e2 : (k : Int).tdiv 4 = (p : Int) := by rw [Int.tdiv_eq_ediv_of_nonneg (by omega)]; omega
            have e3 : IntKind.i64.wrap (p : Int) = (p : Int) := by rw [IntKind.wrap_i64]; omega
            have e4 : (k : Int) % 4 = (q : Int) := by omega
            have e5 : (k : Int).tmod 4 = (q : Int) := by rw [Int.tmod_eq_emod_of_nonneg (by omega)]; omega
            have e6 : IntKind.i64.wrap ((q : Int) * 8) = (q8 : Int) := by rw [IntKind.wrap_i64]; omega
            have e7 : IntKind.i64.wrap (24 - (q8 : Int)) = (sh : Int) := by rw [IntKind.wrap_i64]; omega
            have g2 : 0 ≤ (p : Int) := by omega
            have g3 : (p : Int) < 8 := by omega
            have g4 : 0 ≤ (sh : Int) := by omega
            have g5 : (sh : Int) < 32 := by omega
            have d1 := sumL_word hf r' nn (p := p) (by omega)
            have d2 := getF_lt hfok p
            have hb : byteN hf k = getF hf p / 2 ^ sh % 256 := by
              rw [getF_def, ← hsh, ← hq8, ← hq', ← hp]; rfl
            have hset2 := byRow_set hf (i := k) hb
            have e8 : IntKind.u8.wrap ((getF hf p : Int) / 2 ^ sh) = ((getF hf p / 2 ^ sh % 256 : Nat) : Int) := by rw [IntKind.wrap_u8]; simp
            clear hb
            generalize getF hf p / 2 ^ sh % 256 = v at *
            generalize getF hf p = v1 at *
            replace hp := Held.mk hp
            replace hq' := Held.mk hq'
            replace hq8 := Held.mk hq8
            replace hsh := Held.mk hsh
            go_wp2_with (first | (refine' xAb hR rfl rfl rfl ?_; clear hR; intro blk w hR) | (refine' xAa hR rfl rfl inferInstance ?_; clear hR; intro blk w hR) | (refine' aAq hR rfl rfl rfl inferInstance ?_) | (refine' aBq hR rfl rfl rfl inferInstance ?_) | (refine' aCq hR rfl rfl rfl inferInstance ?_) | (refine' aDq hR rfl rfl rfl inferInstance rfl ?_; clear hR; intro w hR) | (refine' aEq hR rfl rfl rfl inferInstance rfl rfl ?_; clear hR; intro w hR) | fail)
            exact hK.out _ _ (xAu rfl rfl rfl) hR
          case he =>
            clear hR
            intro tm w ht hR K
            simp only [Int.natCast_zero, Int.sub_zero] at ht
            simp only [Nat.sub_zero] at hR
            rw [← hres.out] at hR
            repeat (first | (obtain ⟨x, tm', e, ht'⟩ := xAf ht; clear ht; subst e; have ht := ht'; clear ht') | (obtain ⟨tm', e, ht'⟩ := xAc ht; clear ht; subst e; have ht := ht'; clear ht'))
            obtain rfl := xAk ht
            clear ht
            generalize hout : (fun i => (hashN m).getD i 0) = out at *
            have hone := u8s_one 32 out
            go_wp2_with (first | (refine' aDq hR rfl rfl rfl inferInstance rfl ?_; clear hR; intro w hR; refine cutHere ?_) | (refine' xAb hR rfl rfl rfl ?_; clear hR; intro blk w hR) | (refine' xAa hR rfl rfl inferInstance ?_; clear hR; intro blk w hR) | (refine' aAq hR rfl rfl rfl inferInstance ?_) | (refine' aBq hR rfl rfl rfl inferInstance ?_) | (refine' aCq hR rfl rfl rfl inferInstance ?_) | (refine' aDq hR rfl rfl rfl inferInstance rfl ?_; clear hR; intro w hR) | (refine' aEq hR rfl rfl rfl inferInstance rfl rfl ?_; clear hR; intro w hR) | fail)
            unfold Stop
            refine wpList_nil ?_
            simp only [Exit.then]
            rename_i Kz kz
            refine kz _ _ (wp_ret ?_)
            subst hout
            (refine' bodyPost_ret (xBq Tryz.results88 rfl (hR.loadAll (P := Tryz.prog) (ty := 28) ?hm ?hn)) rfl ⟨rfl, ?_⟩; (case hm => exact .tail _ (.tail _ (.head _))); (case hn => simp))
            have hR2 := hR.drop1.drop1.drop1
            unfold sumC
            rw [hN.out, hbl.out]
            exact hR2
        · have g1 : (k : Int) < 8 := by omega
          obtain ⟨k8, hk8⟩ : ∃ x, 8 * k = x := ⟨_, rfl⟩
          obtain ⟨sh, hsh⟩ : ∃ x, 56 - k8 = x := ⟨_, rfl⟩
          have e1 : IntKind.i64.wrap (8 * (k : Int)) = (k8 : Int) := by rw [IntKind.wrap_i64]; omega
          have e2 : IntKind.i64.wrap (56 - (k8 : Int)) = (sh : Int) := by rw [IntKind.wrap_i64]; omega
          have g2 : 0 ≤ (sh : Int) := by omega
          have g3 : (sh : Int) < 64 := by omega
          obtain ⟨v, hv⟩ : ∃ v, tailF N n = v := ⟨_, rfl⟩
          have e3 : IntKind.u8.wrap ((m8 : Int) / 2 ^ sh) = (v : Int) := by
            rw [← hv, hk, hlast.out, tailF_len N (by omega), hm8.out, hk8, hsh, IntKind.wrap_u8]
            simp
          have g4 : IntKind.i64.wrap ((k : Int) + 1) = (k : Int) + 1 := by rw [IntKind.wrap_i64]; omega
          have hn63 : n + 1 ≤ maxLen := by unfold maxLen; omega
          have hnb : (n + 1) * 1 ≤ 140737488355328 := by omega
          have ek2 : ((n + 1 : Nat) : Int) - (n0 : Nat) = (k : Int) + 1 := by omega
          replace hk := Held.mk hk
          replace hk8 := Held.mk hk8
          replace hsh := Held.mk hsh
          replace hv := Held.mk hv
          replace bis := Held.mk bis
          replace blen := Held.mk blen
          replace ek2 := Held.mk ek2
          replace ek := Held.mk ek
          repeat (first | (obtain ⟨x, tm', e, ht'⟩ := xAf ht; clear ht; subst e; have ht := ht'; clear ht') | (obtain ⟨tm', e, ht'⟩ := xAc ht; clear ht; subst e; have ht := ht'; clear ht'))
          obtain rfl := xAk ht
          clear ht
          go_wp2_with (first | (refine' xAb hR rfl rfl rfl ?_; clear hR; intro blk w hR) | (refine' xAa hR rfl rfl inferInstance ?_; clear hR; intro blk w hR) | (refine' aAq hR rfl rfl rfl inferInstance ?_) | (refine' aBq hR rfl rfl rfl inferInstance ?_) | (refine' aCq hR rfl rfl rfl inferInstance ?_) | (refine' aDq hR rfl rfl rfl inferInstance rfl ?_; clear hR; intro w hR) | (refine' aEq hR rfl rfl rfl inferInstance rfl rfl ?_; clear hR; intro w hR) | (refine' xBp hR rfl rfl rfl (xCw _) ?_; clear hR; intro bt w hR) | (refine' xCd hR rfl rfl Tryz.underlying49 hi hz0 hz1 hz2 rfl rfl rfl ble bbig blen.out rfl hn63 hnb ?_; clear hR; intro g' cap' cur' w hR c1 c2 c3 c4))
          refine hK.out ⟨n + 1, g', cap', cur'⟩ _ _ ⟨⟨by show n0 ≤ n + 1; omega, by show n + 1 ≤ 8 + n0; have := hk.out; omega⟩, c1, c2, c3, ?_⟩ (by show 8 + n0 - (n + 1) < 8 + n0 - n; have := hk.out; omega) (by simp only [ek2.out]; exact xAu rfl rfl rfl) hR
          show cur'.take (n + 1) = u8s (n + 1) (tailF N)
          rw [c4, bis.out, u8s_succ, hv.out]
    · have t1 : ((q : Int) != 56) = true := by
        have h := fun h => hlast (hq56.1 h)
        rw [bne_iff_ne]
        intro h'
        exact h (by omega)
      have htl : tailF N n = 0 := by
        obtain ⟨k, rfl⟩ : ∃ k, n = 1 + k := ⟨n - 1, by omega⟩
        exact tailF_gap N (by omega)
      have hn63 : n + 1 ≤ maxLen := by unfold maxLen; omega
      have hnb : (n + 1) * 1 ≤ 140737488355328 := by omega
      replace hNn := Held.mk hNn
      replace hq := Held.mk hq
      replace bis := Held.mk bis
      replace blen := Held.mk blen
      replace htl := Held.mk htl
      clear hq56
      repeat (first | (obtain ⟨x, tm', e, ht'⟩ := xAf ht; clear ht; subst e; have ht := ht'; clear ht') | (obtain ⟨tm', e, ht'⟩ := xAc ht; clear ht; subst e; have ht := ht'; clear ht'))
      obtain rfl := xAk ht
      clear ht
      go_wp2_with (first | (refine' xAb hR rfl rfl rfl ?_; clear hR; intro blk w hR) | (refine' xAa hR rfl rfl inferInstance ?_; clear hR; intro blk w hR) | (refine' aAq hR rfl rfl rfl inferInstance ?_) | (refine' aBq hR rfl rfl rfl inferInstance ?_) | (refine' aCq hR rfl rfl rfl inferInstance ?_) | (refine' aDq hR rfl rfl rfl inferInstance rfl ?_; clear hR; intro w hR) | (refine' aEq hR rfl rfl rfl inferInstance rfl rfl ?_; clear hR; intro w hR) | (refine' xBp hR rfl rfl rfl (xCw _) ?_; clear hR; intro bt w hR) | (refine' xCd hR rfl rfl Tryz.underlying49 hi hz0 hz1 hz2 rfl rfl rfl ble bbig blen.out rfl hn63 hnb ?_; clear hR; intro g' cap' cur' w hR c1 c2 c3 c4))
      refine hK.out ⟨n + 1, g', cap', cur'⟩ _ _ ⟨⟨by show 1 ≤ n + 1; omega, by show n + 1 ≤ 1 + gapN N; omega⟩, c1, c2, c3, ?_⟩ (by show 1 + gapN N - (n + 1) < 1 + gapN N - n; omega) (xAu rfl rfl rfl) hR
      show cur'.take (n + 1) = u8s (n + 1) (tailF N)
      rw [c4, bis.out, u8s_succ, htl.out]
      rfl
end Go.Proofs.YtgfoeongjhkdmaaGreat
