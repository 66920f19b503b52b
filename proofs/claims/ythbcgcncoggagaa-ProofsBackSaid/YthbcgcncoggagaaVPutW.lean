/- The contracts of nums.put of four words, slices.Reverse of four words, nums.PutLong. -/
import Derived.Test.YthbcgcncoggagaaVF
import Derived.Test.YthbcgcncoggagaaVH
set_option linter.unusedVariables false
set_option linter.unusedSimpArgs false
namespace Go.Proofs.Ythbcgcncoggagaa
open Go.RowKit
attribute [local irreducible] Calls
noncomputable def putL (z : Nat → Nat) : Nat → Nat := opq fun j => beF 8 (z (j / 8)) (j % 8)
theorem putL_def (z : Nat → Nat) (j : Nat) : putL z j = beF 8 (z (j / 8)) (j % 8) := by unfold putL; rw [xCb]
theorem putL_at (z : Nat → Nat) (k t : Nat) (h : t < 8) : putL z (8 * k + t) = beF 8 (z k) t := by
  rw [putL_def, show (8 * k + t) / 8 = k by omega, show (8 * k + t) % 8 = t by omega]
theorem putL_lt (z : Nat → Nat) (j : Nat) : putL z j < 256 := by rw [putL_def, beF_def]; exact Nat.mod_lt _ (by decide)
noncomputable def long32 (z : Nat → Nat) : List Nat := (List.range 32).map (putL z)
theorem xCv (z : Nat → Nat) : (long32 z).length = 32 := by simp [long32]
theorem long32_at (z : Nat → Nat) {j : Nat} (h : j < 32) : (long32 z).getD j 0 = putL z j := by
  unfold long32; rw [List.getD_eq_getElem?_getD, List.getElem?_map, List.getElem?_range h]; rfl
theorem long32_lt (z : Nat → Nat) (j : Nat) : (long32 z).getD j 0 < 256 := by
  by_cases h : j < 32
  · rw [long32_at z h]; exact putL_lt z j
  · rw [List.getD_eq_getElem?_getD, List.getElem?_eq_none (by rw [xCv]; omega)]; exact (by decide : 0 < 256)
section
variable {B0 : Nat} {w0 w : World} {L : List (Nat × Obj)}
set_option maxRecDepth 100000 in
set_option maxHeartbeats 4000000 in
theorem put_four (z : Nat → Nat) (hz : ∀ k, z k < 18446744073709551616) (wb : Nat) (hw : ∀ w, Rep B0 w0 L w → ∀ k, k < 4 → w.cell? ⟨wb, k, none⟩ = some (.int .u64 (z k : Int))) (hR : Rep B0 w0 L w) :
    Calls Try.prog 127 #[.slice none 0 0, .int .i64 8, .slice (some ⟨wb, 0, none⟩) 4 4] w fun e w' => Fresh B0 w0 L e w' (long32 z) := by
  obtain ⟨i0, hi, hz0, hz1, hz2⟩ := info_parts info_u8
  obtain ⟨l0, hl0, hmk0⟩ := make_nc 0 32 (by decide) (by decide)
  have hmk : ∀ w, (Instr.makeSlice 91 (.int .i64 0) (.int .i64 32)).run Try.prog w = .ok (.slice (some ⟨w.heap.size, 0, none⟩) 0 32) (w.alloc (.cells l0.toArray 5)) := hmk0
  clear hmk0
  have hv0 : xBs B0 w0 L (.slice none 0 0) [] := sliceOf_nil
  have hN : ([] : List Nat).length = 0 := rfl
  have hNM : 0 ≤ l0.length := Nat.zero_le _
  replace hw := Held.mk hw
  replace hl0 := Held.mk hl0
  replace hv0 := Held.mk hv0
  replace hN := Held.mk hN
  go_enter Try.func127, Try.ntmps127
  go_wp2_with (first | (refine' xAe hR rfl rfl rfl ?_; clear hR; intro blk w hR) | (refine' xAb hR rfl rfl inferInstance ?_; clear hR; intro blk w hR) | (refine' xAc hR rfl rfl rfl inferInstance ?hm ?hn ?_; (case hm => first | with_reducible assumption | repeat (first | exact .head _ | with_reducible assumption | apply mC)); (case hn => first | rfl | simp)) | (refine' xAd hR rfl rfl rfl inferInstance ?hm ?hv ?hn ?_; (case hm => first | with_reducible assumption | repeat (first | exact .head _ | with_reducible assumption | apply mC)); (case hv => first | with_reducible assumption | (simp only [kC, kD, kE, kF]; try rfl)); (case hn => first | rfl | simp)) | (refine' xBg hR rfl rfl rfl inferInstance ?hm ?hv ?_; (case hm => first | with_reducible assumption | repeat (first | exact .head _ | with_reducible assumption | apply mC)); (case hv => first | rfl | with_reducible assumption)) | (refine' xAa hR rfl rfl rfl inferInstance rfl ?hs ?zone ?zvn ?hn ?_; (case hs => repeat (first | exact xAf.head | apply xAf.tail)); (case zone => first | rfl | with_reducible assumption); (case zvn => first | rfl | simp); (case hn => first | rfl | simp); clear hR; intro w hR) | (refine' xBe hR rfl rfl rfl inferInstance rfl rfl ?hs ?hn ?hl ?_; (case hs => repeat (first | exact xAf.head | apply xAf.tail)); (case hn => first | exact oD rfl | (show _ < 4; with_reducible assumption) | (simp; try omega)); (case hl => first | with_reducible assumption | (simp only [nl, kA, kB]; first | done | rfl) | rfl); clear hR; intro w hR) | (refine' xCp hR rfl rfl rfl rfl hmk ?_; clear hR; intro blk w hR) | (refine' wpList_copyOf hR rfl rfl rfl rfl hv0.out hN.out hNM ?_; clear hR; intro cur w k1 k2 hR))
  have hk1 : cur.length = 32 := by rw [k1, hl0.out]
  clear k1 k2 hNM hmk hv0 hN hl0
  refine' xCm (false :: false :: false :: false :: false :: false :: false :: false :: false :: true :: true :: false :: false :: false :: false :: false :: false :: false :: false :: false :: false :: false :: false :: false :: false :: false :: false :: true :: true :: true :: true :: true :: true :: true :: true :: true :: true :: true :: true :: true :: true :: true :: true :: true :: true :: true :: true :: false :: []) (fun (x : Nat × Buf) l => (l.set 7 (.slice (some ⟨x.2.g, 0, none⟩) x.2.i x.2.cap)).set 26 (.int .i64 (x.1 : Int))) (fun x => (x.2.g, .cells x.2.cur.toArray 5) :: L) (fun x => 4 - x.1) (fun y => (y.1 ≤ 4 ∧ y.2.i = 8 * y.1) ∧ BufOk y.2.i (putL z) y.2) (0, ⟨0, blk, 32, cur⟩) ?h0 ?hO ?hR ?hs
  case h0 => exact xBb rfl rfl rfl
  case hO => exact ⟨⟨Nat.zero_le _, rfl⟩, Nat.zero_le _, by show 32 ≤ _; unfold maxLen; decide, hk1, by show cur.take 0 = u8s 0 _; rw [xCk]; rfl⟩
  case hR => exact hR
  case hs =>
    clear hR hk1
    intro y tm w hO ht hR K hK
    obtain ⟨k, n, g, cap, cur⟩ := y
    obtain ⟨⟨k4, hkn⟩, ⟨ble, bbig, blen, bis⟩⟩ := hO
    simp only at k4 hkn ble bbig blen bis ht hR
    have c0 : 0 ≤ (k : Int) := by omega
    by_cases hk4 : k = 4
    · have e8 : ((4 : Nat) : Int) = 4 := rfl
      subst hk4
      rw [e8] at ht
      clear hK e8
      obtain rfl : n = 32 := hkn
      replace bis := Held.mk bis
      replace blen := Held.mk blen
      repeat (first | (obtain ⟨x, tm', e, ht'⟩ := xAs ht; clear ht; subst e; have ht := ht'; clear ht') | (obtain ⟨tm', e, ht'⟩ := xAj ht; clear ht; subst e; have ht := ht'; clear ht'))
      obtain rfl := xBa ht
      clear ht
      go_wp2_with (first | (refine' xAe hR rfl rfl rfl ?_; clear hR; intro blk w hR) | (refine' xAb hR rfl rfl inferInstance ?_; clear hR; intro blk w hR) | (refine' xAc hR rfl rfl rfl inferInstance ?hm ?hn ?_; (case hm => first | with_reducible assumption | repeat (first | exact .head _ | with_reducible assumption | apply mC)); (case hn => first | rfl | simp)) | (refine' xAd hR rfl rfl rfl inferInstance ?hm ?hv ?hn ?_; (case hm => first | with_reducible assumption | repeat (first | exact .head _ | with_reducible assumption | apply mC)); (case hv => first | with_reducible assumption | (simp only [kC, kD, kE, kF]; try rfl)); (case hn => first | rfl | simp)) | (refine' xBg hR rfl rfl rfl inferInstance ?hm ?hv ?_; (case hm => first | with_reducible assumption | repeat (first | exact .head _ | with_reducible assumption | apply mC)); (case hv => first | rfl | with_reducible assumption)) | (refine' xAa hR rfl rfl rfl inferInstance rfl ?hs ?zone ?zvn ?hn ?_; (case hs => repeat (first | exact xAf.head | apply xAf.tail)); (case zone => first | rfl | with_reducible assumption); (case zvn => first | rfl | simp); (case hn => first | rfl | simp); clear hR; intro w hR) | (refine' xBe hR rfl rfl rfl inferInstance rfl rfl ?hs ?hn ?hl ?_; (case hs => repeat (first | exact xAf.head | apply xAf.tail)); (case hn => first | exact oD rfl | (show _ < 4; with_reducible assumption) | (simp; try omega)); (case hl => first | with_reducible assumption | (simp only [nl, kA, kB]; first | done | rfl) | rfl); clear hR; intro w hR) | fail)
      go_ret
      refine ⟨g, cap, by rw [xCv]; rfl, cur, ⟨by rw [xCv]; exact ble, bbig, blen.out, by rw [xCv, bis.out]; exact u8s_congr fun j hj => (long32_at z hj).symm, long32_lt z⟩, hR⟩
    · have c1 : (k : Int) < 4 := by omega
      obtain ⟨M, hM⟩ : ∃ M, n + 8 = M := ⟨_, rfl⟩
      have hld : (loadVar 22 ⟨wb, k, none⟩).run Try.prog w = .ok (.int .u64 (z k : Int)) w := cell_load (ty := 22) (hw.out w hR.drop1 k (by omega))
      have hzk := hz k
      have hat := fun t (ht : t < 8) => putL_at z k t ht
      obtain ⟨zk, hx⟩ : ∃ x, z k = x := ⟨_, rfl⟩
      rw [hx] at hld hzk hat
      have ek1 : IntKind.i64.wrap ((k : Int) + 1) = ((k + 1 : Nat) : Int) := by rw [IntKind.wrap_i64]; omega
      have hM2 : M = 8 * (k + 1) := by omega
      have hM3 : M ≤ 32 := by omega
      replace bis := Held.mk bis
      replace blen := Held.mk blen
      replace hM := Held.mk hM
      replace hM2 := Held.mk hM2
      replace hM3 := Held.mk hM3
      replace hkn := Held.mk hkn
      replace hx := Held.mk hx
      replace hat := Held.mk hat
      replace ek1 := Held.mk ek1
      repeat (first | (obtain ⟨x, tm', e, ht'⟩ := xAs ht; clear ht; subst e; have ht := ht'; clear ht') | (obtain ⟨tm', e, ht'⟩ := xAj ht; clear ht; subst e; have ht := ht'; clear ht'))
      obtain rfl := xBa ht
      clear ht
      go_wp2_with (first | (refine' xAe hR rfl rfl rfl ?_; clear hR; intro blk w hR) | (refine' xAb hR rfl rfl inferInstance ?_; clear hR; intro blk w hR) | (refine' xAc hR rfl rfl rfl inferInstance ?hm ?hn ?_; (case hm => first | with_reducible assumption | repeat (first | exact .head _ | with_reducible assumption | apply mC)); (case hn => first | rfl | simp)) | (refine' xAd hR rfl rfl rfl inferInstance ?hm ?hv ?hn ?_; (case hm => first | with_reducible assumption | repeat (first | exact .head _ | with_reducible assumption | apply mC)); (case hv => first | with_reducible assumption | (simp only [kC, kD, kE, kF]; try rfl)); (case hn => first | rfl | simp)) | (refine' xBg hR rfl rfl rfl inferInstance ?hm ?hv ?_; (case hm => first | with_reducible assumption | repeat (first | exact .head _ | with_reducible assumption | apply mC)); (case hv => first | rfl | with_reducible assumption)) | (refine' xAa hR rfl rfl rfl inferInstance rfl ?hs ?zone ?zvn ?hn ?_; (case hs => repeat (first | exact xAf.head | apply xAf.tail)); (case zone => first | rfl | with_reducible assumption); (case zvn => first | rfl | simp); (case hn => first | rfl | simp); clear hR; intro w hR) | (refine' xBe hR rfl rfl rfl inferInstance rfl rfl ?hs ?hn ?hl ?_; (case hs => repeat (first | exact xAf.head | apply xAf.tail)); (case hn => first | exact oD rfl | (show _ < 4; with_reducible assumption) | (simp; try omega)); (case hl => first | with_reducible assumption | (simp only [nl, kA, kB]; first | done | rfl) | rfl); clear hR; intro w hR) | (refine' xCt rfl rfl rfl hld ?_))
      clear hld
      have blen0 := blen.out
      refine' xCm (false :: false :: false :: false :: false :: false :: false :: false :: false :: false :: true :: false :: false :: false :: false :: false :: false :: false :: false :: false :: false :: false :: false :: false :: false :: false :: false :: false :: false :: false :: false :: false :: true :: true :: true :: true :: true :: true :: true :: true :: true :: true :: true :: true :: true :: true :: false :: false :: []) (fun (b : Buf) l => (l.set 7 (.slice (some ⟨b.g, 0, none⟩) b.i b.cap)).set 31 (.int .i64 ((b.i : Int) - (n : Nat)))) (fun b => (b.g, .cells b.cur.toArray 5) :: L) (fun b => M - b.i) (fun b => (n ≤ b.i ∧ b.i ≤ M) ∧ BufOk b.i (putL z) b) ⟨n, g, cap, cur⟩ ?i0 ?iO ?iR ?iS
      case i0 =>
        simp only [Int.sub_self]
        exact xBb rfl rfl rfl
      case iO => exact ⟨⟨Nat.le_refl _, by show n ≤ M; have := hM.out; omega⟩, ble, bbig, blen.out, bis.out⟩
      case iR => exact hR
      case iS =>
        clear hR ble bbig blen bis blen0
        intro b tm w hO ht hR K2 hK2
        obtain ⟨i, g, cap, cur⟩ := b
        obtain ⟨⟨h1n, hn1⟩, ⟨ble, bbig, blen, bis⟩⟩ := hO
        simp only at h1n hn1 ble bbig blen bis ht hR
        obtain ⟨t, hk⟩ : ∃ k, i = n + k := ⟨i - n, by omega⟩
        have ek : (i : Int) - (n : Nat) = (t : Int) := by omega
        rw [ek] at ht
        have g0 : 0 ≤ (t : Int) := by omega
        by_cases hl8 : t = 8
        · subst hl8
          obtain rfl : i = M := by have := hM.out; omega
          clear hK2
          replace hk := Held.mk hk
          replace ek := Held.mk ek
          replace bis := Held.mk bis
          replace blen := Held.mk blen
          have e8 : ((8 : Nat) : Int) = 8 := rfl
          rw [e8] at ht
          clear e8
          have ek2 := ek1.out
          repeat (first | (obtain ⟨x, tm', e, ht'⟩ := xAs ht; clear ht; subst e; have ht := ht'; clear ht') | (obtain ⟨tm', e, ht'⟩ := xAj ht; clear ht; subst e; have ht := ht'; clear ht'))
          obtain rfl := xBa ht
          clear ht
          go_wp2_with (first | (refine' xAe hR rfl rfl rfl ?_; clear hR; intro blk w hR) | (refine' xAb hR rfl rfl inferInstance ?_; clear hR; intro blk w hR) | (refine' xAc hR rfl rfl rfl inferInstance ?hm ?hn ?_; (case hm => first | with_reducible assumption | repeat (first | exact .head _ | with_reducible assumption | apply mC)); (case hn => first | rfl | simp)) | (refine' xAd hR rfl rfl rfl inferInstance ?hm ?hv ?hn ?_; (case hm => first | with_reducible assumption | repeat (first | exact .head _ | with_reducible assumption | apply mC)); (case hv => first | with_reducible assumption | (simp only [kC, kD, kE, kF]; try rfl)); (case hn => first | rfl | simp)) | (refine' xBg hR rfl rfl rfl inferInstance ?hm ?hv ?_; (case hm => first | with_reducible assumption | repeat (first | exact .head _ | with_reducible assumption | apply mC)); (case hv => first | rfl | with_reducible assumption)) | (refine' xAa hR rfl rfl rfl inferInstance rfl ?hs ?zone ?zvn ?hn ?_; (case hs => repeat (first | exact xAf.head | apply xAf.tail)); (case zone => first | rfl | with_reducible assumption); (case zvn => first | rfl | simp); (case hn => first | rfl | simp); clear hR; intro w hR) | (refine' xBe hR rfl rfl rfl inferInstance rfl rfl ?hs ?hn ?hl ?_; (case hs => repeat (first | exact xAf.head | apply xAf.tail)); (case hn => first | exact oD rfl | (show _ < 4; with_reducible assumption) | (simp; try omega)); (case hl => first | with_reducible assumption | (simp only [nl, kA, kB]; first | done | rfl) | rfl); clear hR; intro w hR) | fail)
          exact hK.out (k + 1, ⟨i, g, cap, cur⟩) _ _ ⟨⟨by show k + 1 ≤ 4; omega, hM2.out⟩, ble, bbig, blen.out, bis.out⟩ (by show 4 - (k + 1) < 4 - k; omega) (xBb rfl rfl rfl) hR
        · have g1 : (t : Int) < 8 := by have := hM.out; omega
          have t7 : t < 8 := by omega
          obtain ⟨d, hd⟩ : ∃ x, 7 - t = x := ⟨_, rfl⟩
          obtain ⟨sh, hsh⟩ : ∃ x, 8 * d = x := ⟨_, rfl⟩
          have e2 : IntKind.i64.wrap (7 - (t : Int)) = (d : Int) := by rw [IntKind.wrap_i64]; omega
          have e3 : IntKind.i64.wrap (8 * (d : Int)) = (sh : Int) := by rw [IntKind.wrap_i64]; omega
          have g2 : 0 ≤ (sh : Int) := by omega
          have g3 : (sh : Int) < 64 := by omega
          obtain ⟨v, hv⟩ : ∃ v, putL z i = v := ⟨_, rfl⟩
          have e4 : IntKind.u8.wrap ((zk : Int) / 2 ^ sh) = (v : Int) := by
            rw [← hv, hk, hkn.out, hat.out t t7, beF_def, show 8 - 1 - t = d by omega, hsh, IntKind.wrap_u8]
            simp
          have g4 : IntKind.i64.wrap ((t : Int) + 1) = (t : Int) + 1 := by rw [IntKind.wrap_i64]; omega
          have hn63 : i + 1 ≤ maxLen := by unfold maxLen; have := hM3.out; omega
          have hnb2 : (i + 1) * 1 ≤ 140737488355328 := by have := hM3.out; omega
          have ek2 : ((i + 1 : Nat) : Int) - (n : Nat) = (t : Int) + 1 := by omega
          have hiM : i + 1 ≤ M := by have := hM.out; omega
          have hni : n ≤ i + 1 := by omega
          have hmu : M - (i + 1) < M - i := by omega
          replace hk := Held.mk hk
          replace hd := Held.mk hd
          replace hsh := Held.mk hsh
          replace hv := Held.mk hv
          replace bis := Held.mk bis
          replace blen := Held.mk blen
          replace ek2 := Held.mk ek2
          replace ek := Held.mk ek
          replace hiM := Held.mk hiM
          replace hni := Held.mk hni
          replace hmu := Held.mk hmu
          repeat (first | (obtain ⟨x, tm', e, ht'⟩ := xAs ht; clear ht; subst e; have ht := ht'; clear ht') | (obtain ⟨tm', e, ht'⟩ := xAj ht; clear ht; subst e; have ht := ht'; clear ht'))
          obtain rfl := xBa ht
          clear ht
          go_wp2_with (first | (refine' xAe hR rfl rfl rfl ?_; clear hR; intro blk w hR) | (refine' xAb hR rfl rfl inferInstance ?_; clear hR; intro blk w hR) | (refine' xAc hR rfl rfl rfl inferInstance ?hm ?hn ?_; (case hm => first | with_reducible assumption | repeat (first | exact .head _ | with_reducible assumption | apply mC)); (case hn => first | rfl | simp)) | (refine' xAd hR rfl rfl rfl inferInstance ?hm ?hv ?hn ?_; (case hm => first | with_reducible assumption | repeat (first | exact .head _ | with_reducible assumption | apply mC)); (case hv => first | with_reducible assumption | (simp only [kC, kD, kE, kF]; try rfl)); (case hn => first | rfl | simp)) | (refine' xBg hR rfl rfl rfl inferInstance ?hm ?hv ?_; (case hm => first | with_reducible assumption | repeat (first | exact .head _ | with_reducible assumption | apply mC)); (case hv => first | rfl | with_reducible assumption)) | (refine' xAa hR rfl rfl rfl inferInstance rfl ?hs ?zone ?zvn ?hn ?_; (case hs => repeat (first | exact xAf.head | apply xAf.tail)); (case zone => first | rfl | with_reducible assumption); (case zvn => first | rfl | simp); (case hn => first | rfl | simp); clear hR; intro w hR) | (refine' xBe hR rfl rfl rfl inferInstance rfl rfl ?hs ?hn ?hl ?_; (case hs => repeat (first | exact xAf.head | apply xAf.tail)); (case hn => first | exact oD rfl | (show _ < 4; with_reducible assumption) | (simp; try omega)); (case hl => first | with_reducible assumption | (simp only [nl, kA, kB]; first | done | rfl) | rfl); clear hR; intro w hR) | (refine' xCw hR rfl rfl rfl (byte_new _) ?_; clear hR; intro bt w hR) | (refine' xCn hR rfl rfl Try.underlying91 hi hz0 hz1 hz2 rfl rfl rfl ble bbig blen.out rfl hn63 hnb2 ?_; clear hR; intro g' cap' cur' w hR c1 c2 c3 c4))
          refine hK2.out ⟨i + 1, g', cap', cur'⟩ _ _ ⟨⟨hni.out, hiM.out⟩, c1, c2, c3, ?_⟩ hmu.out (by simp only [ek2.out]; exact xBb rfl rfl rfl) hR
          show cur'.take (i + 1) = u8s (i + 1) (putL z)
          rw [c4, bis.out, u8s_succ, hv.out]
set_option maxRecDepth 100000 in
set_option maxHeartbeats 4000000 in
theorem reverse_four {b : Nat} (x0 x1 x2 x3 : Int) (hR : Rep B0 w0 ((b, .cells [Value.int .u64 x0, .int .u64 x1, .int .u64 x2, .int .u64 x3].toArray 24) :: L) w) :
    Calls Try.prog 150 #[.slice (some ⟨b, 0, none⟩) 4 4] w fun e w' => e = .returned (.tuple #[]) ∧ Rep B0 w0 ((b, .cells [Value.int .u64 x3, .int .u64 x2, .int .u64 x1, .int .u64 x0].toArray 24) :: L) w' := by
  go_enter Try.func150, Try.ntmps150
  go_wp2_with (first | (refine' xAe hR rfl rfl rfl ?_; clear hR; intro blk w hR) | (refine' xAb hR rfl rfl inferInstance ?_; clear hR; intro blk w hR) | (refine' xAc hR rfl rfl rfl inferInstance ?hm ?hn ?_; (case hm => first | with_reducible assumption | repeat (first | exact .head _ | with_reducible assumption | apply mC)); (case hn => first | rfl | simp)) | (refine' xAd hR rfl rfl rfl inferInstance ?hm ?hv ?hn ?_; (case hm => first | with_reducible assumption | repeat (first | exact .head _ | with_reducible assumption | apply mC)); (case hv => first | with_reducible assumption | (simp only [kC, kD, kE, kF]; try rfl)); (case hn => first | rfl | simp)) | (refine' xBg hR rfl rfl rfl inferInstance ?hm ?hv ?_; (case hm => first | with_reducible assumption | repeat (first | exact .head _ | with_reducible assumption | apply mC)); (case hv => first | rfl | with_reducible assumption)) | (refine' xAa hR rfl rfl rfl inferInstance rfl ?hs ?zone ?zvn ?hn ?_; (case hs => repeat (first | exact xAf.head | apply xAf.tail)); (case zone => first | rfl | with_reducible assumption); (case zvn => first | rfl | simp); (case hn => first | rfl | simp); clear hR; intro w hR) | (refine' xBe hR rfl rfl rfl inferInstance rfl rfl ?hs ?hn ?hl ?_; (case hs => repeat (first | exact xAf.head | apply xAf.tail)); (case hn => first | exact oD rfl | (show _ < 4; with_reducible assumption) | (simp; try omega)); (case hl => first | with_reducible assumption | (simp only [nl, kA, kB]; first | done | rfl) | rfl); clear hR; intro w hR) | fail)
  refine wp_loop_rounds 3 ?_
  rw [rounds_succ]
  go_wp2_with (first | (refine' xAe hR rfl rfl rfl ?_; clear hR; intro blk w hR) | (refine' xAb hR rfl rfl inferInstance ?_; clear hR; intro blk w hR) | (refine' xAc hR rfl rfl rfl inferInstance ?hm ?hn ?_; (case hm => first | with_reducible assumption | repeat (first | exact .head _ | with_reducible assumption | apply mC)); (case hn => first | rfl | simp)) | (refine' xAd hR rfl rfl rfl inferInstance ?hm ?hv ?hn ?_; (case hm => first | with_reducible assumption | repeat (first | exact .head _ | with_reducible assumption | apply mC)); (case hv => first | with_reducible assumption | (simp only [kC, kD, kE, kF]; try rfl)); (case hn => first | rfl | simp)) | (refine' xBg hR rfl rfl rfl inferInstance ?hm ?hv ?_; (case hm => first | with_reducible assumption | repeat (first | exact .head _ | with_reducible assumption | apply mC)); (case hv => first | rfl | with_reducible assumption)) | (refine' xAa hR rfl rfl rfl inferInstance rfl ?hs ?zone ?zvn ?hn ?_; (case hs => repeat (first | exact xAf.head | apply xAf.tail)); (case zone => first | rfl | with_reducible assumption); (case zvn => first | rfl | simp); (case hn => first | rfl | simp); clear hR; intro w hR) | (refine' xBe hR rfl rfl rfl inferInstance rfl rfl ?hs ?hn ?hl ?_; (case hs => repeat (first | exact xAf.head | apply xAf.tail)); (case hn => first | exact oD rfl | (show _ < 4; with_reducible assumption) | (simp; try omega)); (case hl => first | with_reducible assumption | (simp only [nl, kA, kB]; first | done | rfl) | rfl); clear hR; intro w hR) | fail)
  refine xAn hR [1, 1, 1, 1, 1, 1, 1, 0, 1, 1, 1, 0, 1, 2, 2, 2] [] mixed (by kernel_rfl) rfl rfl (fun K hK => ?_)
  clear hR
  repeat ((first | (refine xBq ?_) | (refine' xAx (by decide) rfl (.inl rfl) rfl ?ha ?_) | (refine' xAx (by decide) rfl (.inr rfl) rfl ?ha ?_) | (refine' xAt rfl rfl rfl inferInstance ?hm ?hn ?ha ?_; (case hm => first | with_reducible assumption | repeat (first | exact .head _ | with_reducible assumption | apply mC)); (case hn => first | rfl | simp)) | (refine' xAr rfl rfl rfl inferInstance ?hm ?hv ?hn ?ha ?_; (case hm => first | with_reducible assumption | repeat (first | exact .head _ | with_reducible assumption | apply mC)); (case hv => first | with_reducible assumption | (simp only [kC, kD, kE, kF]; try rfl)); (case hn => first | rfl | simp)) | (refine' xAk rfl rfl rfl inferInstance ?hm ?hv ?ha ?_; (case hm => first | with_reducible assumption | repeat (first | exact .head _ | with_reducible assumption | apply mC)); (case hv => first | rfl | with_reducible assumption)) | (refine' xAq rfl rfl rfl inferInstance ?hm ?hv ?hn ?ha ?_; (case hm => first | with_reducible assumption | repeat (first | exact .head _ | with_reducible assumption | apply mC)); (case hv => first | with_reducible assumption | (simp only [kC, kD, kE, kF]; try rfl)); (case hn => first | rfl | simp)) | (refine' xAm rfl rfl rfl inferInstance ?hm ?hv ?ha ?_; (case hm => first | with_reducible assumption | repeat (first | exact .head _ | with_reducible assumption | apply mC)); (case hv => first | rfl | with_reducible assumption)) | ((first | refine' xAi (by decide) rfl rfl rfl rfl (fun w => ?hq) ?ha ?_ | refine' xBk (by decide) rfl rfl rfl rfl (fun w => ?hq) ?ha ?_ | refine' xAw (by decide) rfl rfl rfl (fun w => ?hq) ?ha ?_ | refine' xAh (by decide) rfl rfl rfl (fun w => ?hq) ?ha ?_ | refine' xAu (by decide) rfl rfl rfl (fun w => ?hq) ?ha ?_ | refine' xBl (by decide) rfl rfl rfl rfl (fun w => ?hq) ?ha ?_ | refine' xBj (by decide) rfl rfl rfl rfl rfl rfl (fun w => ?hq) ?ha ?_ | refine' xBm (by decide) rfl rfl (fun w => ?hq) ?ha ?_ | refine' xAv (by decide) rfl rfl rfl (fun w => ?hq) ?ha ?_ | refine' xBi (by decide) rfl rfl rfl (fun w => ?hq) ?ha ?_); (case hq => go_simp; try rfl)) | (refine' xAl (by decide) rfl rfl rfl ?ha ?_) | (refine' xBp (by decide) rfl rfl rfl rfl ?ha ?_) | (refine' xBr (by decide) rfl ?ha ?_) | fail); try (case ha => simp only [kP, kQ, kA, kB]; try rfl))
  refine xCa (hK _ _ ?_)
  clear hK K
  refine xCg (fun Q hQ => ?_)
  try simp only [List.nil_append, List.cons_append]
  repeat ((first | refine' xBc rfl (.inl rfl) rfl ?hk ?ha ?_ | refine' xBc rfl (.inr rfl) rfl ?hk ?ha ?_ | (refine' xAz rfl rfl rfl inferInstance rfl ?hs rfl rfl ?hn ?hk ?ha ?_; (case hs => repeat (first | exact xAf.head | apply xAf.tail)); (case hn => first | rfl | simp)) | (refine' xAo rfl rfl rfl inferInstance rfl rfl ?hs ?hn ?hl ?hk ?ha ?_; (case hs => repeat (first | exact xAf.head | apply xAf.tail)); (case hn => first | exact oD rfl | (show _ < 4; with_reducible assumption) | (simp; try omega)); (case hl => first | with_reducible assumption | (simp only [nl, kA, kB]; first | done | rfl) | rfl)) | (refine' xAy rfl rfl rfl inferInstance rfl rfl ?hvn ?hs ?hn ?hl ?hk ?ha ?_; (case hvn => first | rfl | simp); (case hs => repeat (first | exact xAf.head | apply xAf.tail)); (case hn => first | exact oD rfl | (show _ < 4; with_reducible assumption) | (simp; try omega)); (case hl => first | with_reducible assumption | (simp only [nl, kA, kB]; first | done | rfl) | rfl)) | (refine' xBv rfl (fun w => ?hq) ?hk ?ha ?_; (case hq => go_simp; try rfl))); (case hk => intro p hp; first | exact absurd hp List.not_mem_nil | (obtain rfl := List.mem_singleton.1 hp; repeat (first | exact List.Mem.head _ | with_reducible assumption | apply mC))); (case ha => simp only [kP, kQ, kA, kB]; try rfl))
  refine xCh (fun w hR => hQ _ _ ?_)
  clear hQ Q
  go_wp2_with (first | (refine' xAe hR rfl rfl rfl ?_; clear hR; intro blk w hR) | (refine' xAb hR rfl rfl inferInstance ?_; clear hR; intro blk w hR) | (refine' xAc hR rfl rfl rfl inferInstance ?hm ?hn ?_; (case hm => first | with_reducible assumption | repeat (first | exact .head _ | with_reducible assumption | apply mC)); (case hn => first | rfl | simp)) | (refine' xAd hR rfl rfl rfl inferInstance ?hm ?hv ?hn ?_; (case hm => first | with_reducible assumption | repeat (first | exact .head _ | with_reducible assumption | apply mC)); (case hv => first | with_reducible assumption | (simp only [kC, kD, kE, kF]; try rfl)); (case hn => first | rfl | simp)) | (refine' xBg hR rfl rfl rfl inferInstance ?hm ?hv ?_; (case hm => first | with_reducible assumption | repeat (first | exact .head _ | with_reducible assumption | apply mC)); (case hv => first | rfl | with_reducible assumption)) | (refine' xAa hR rfl rfl rfl inferInstance rfl ?hs ?zone ?zvn ?hn ?_; (case hs => repeat (first | exact xAf.head | apply xAf.tail)); (case zone => first | rfl | with_reducible assumption); (case zvn => first | rfl | simp); (case hn => first | rfl | simp); clear hR; intro w hR) | (refine' xBe hR rfl rfl rfl inferInstance rfl rfl ?hs ?hn ?hl ?_; (case hs => repeat (first | exact xAf.head | apply xAf.tail)); (case hn => first | exact oD rfl | (show _ < 4; with_reducible assumption) | (simp; try omega)); (case hl => first | with_reducible assumption | (simp only [nl, kA, kB]; first | done | rfl) | rfl); clear hR; intro w hR) | fail)
  rw [rounds_succ]
  go_wp2_with (first | (refine' xAe hR rfl rfl rfl ?_; clear hR; intro blk w hR) | (refine' xAb hR rfl rfl inferInstance ?_; clear hR; intro blk w hR) | (refine' xAc hR rfl rfl rfl inferInstance ?hm ?hn ?_; (case hm => first | with_reducible assumption | repeat (first | exact .head _ | with_reducible assumption | apply mC)); (case hn => first | rfl | simp)) | (refine' xAd hR rfl rfl rfl inferInstance ?hm ?hv ?hn ?_; (case hm => first | with_reducible assumption | repeat (first | exact .head _ | with_reducible assumption | apply mC)); (case hv => first | with_reducible assumption | (simp only [kC, kD, kE, kF]; try rfl)); (case hn => first | rfl | simp)) | (refine' xBg hR rfl rfl rfl inferInstance ?hm ?hv ?_; (case hm => first | with_reducible assumption | repeat (first | exact .head _ | with_reducible assumption | apply mC)); (case hv => first | rfl | with_reducible assumption)) | (refine' xAa hR rfl rfl rfl inferInstance rfl ?hs ?zone ?zvn ?hn ?_; (case hs => repeat (first | exact xAf.head | apply xAf.tail)); (case zone => first | rfl | with_reducible assumption); (case zvn => first | rfl | simp); (case hn => first | rfl | simp); clear hR; intro w hR) | (refine' xBe hR rfl rfl rfl inferInstance rfl rfl ?hs ?hn ?hl ?_; (case hs => repeat (first | exact xAf.head | apply xAf.tail)); (case hn => first | exact oD rfl | (show _ < 4; with_reducible assumption) | (simp; try omega)); (case hl => first | with_reducible assumption | (simp only [nl, kA, kB]; first | done | rfl) | rfl); clear hR; intro w hR) | fail)
  refine xAn hR [1, 1, 1, 1, 1, 1, 1, 0, 1, 1, 1, 0, 1, 2, 2, 2] [] mixed (by kernel_rfl) rfl rfl (fun K hK => ?_)
  clear hR
  repeat ((first | (refine xBq ?_) | (refine' xAx (by decide) rfl (.inl rfl) rfl ?ha ?_) | (refine' xAx (by decide) rfl (.inr rfl) rfl ?ha ?_) | (refine' xAt rfl rfl rfl inferInstance ?hm ?hn ?ha ?_; (case hm => first | with_reducible assumption | repeat (first | exact .head _ | with_reducible assumption | apply mC)); (case hn => first | rfl | simp)) | (refine' xAr rfl rfl rfl inferInstance ?hm ?hv ?hn ?ha ?_; (case hm => first | with_reducible assumption | repeat (first | exact .head _ | with_reducible assumption | apply mC)); (case hv => first | with_reducible assumption | (simp only [kC, kD, kE, kF]; try rfl)); (case hn => first | rfl | simp)) | (refine' xAk rfl rfl rfl inferInstance ?hm ?hv ?ha ?_; (case hm => first | with_reducible assumption | repeat (first | exact .head _ | with_reducible assumption | apply mC)); (case hv => first | rfl | with_reducible assumption)) | (refine' xAq rfl rfl rfl inferInstance ?hm ?hv ?hn ?ha ?_; (case hm => first | with_reducible assumption | repeat (first | exact .head _ | with_reducible assumption | apply mC)); (case hv => first | with_reducible assumption | (simp only [kC, kD, kE, kF]; try rfl)); (case hn => first | rfl | simp)) | (refine' xAm rfl rfl rfl inferInstance ?hm ?hv ?ha ?_; (case hm => first | with_reducible assumption | repeat (first | exact .head _ | with_reducible assumption | apply mC)); (case hv => first | rfl | with_reducible assumption)) | ((first | refine' xAi (by decide) rfl rfl rfl rfl (fun w => ?hq) ?ha ?_ | refine' xBk (by decide) rfl rfl rfl rfl (fun w => ?hq) ?ha ?_ | refine' xAw (by decide) rfl rfl rfl (fun w => ?hq) ?ha ?_ | refine' xAh (by decide) rfl rfl rfl (fun w => ?hq) ?ha ?_ | refine' xAu (by decide) rfl rfl rfl (fun w => ?hq) ?ha ?_ | refine' xBl (by decide) rfl rfl rfl rfl (fun w => ?hq) ?ha ?_ | refine' xBj (by decide) rfl rfl rfl rfl rfl rfl (fun w => ?hq) ?ha ?_ | refine' xBm (by decide) rfl rfl (fun w => ?hq) ?ha ?_ | refine' xAv (by decide) rfl rfl rfl (fun w => ?hq) ?ha ?_ | refine' xBi (by decide) rfl rfl rfl (fun w => ?hq) ?ha ?_); (case hq => go_simp; try rfl)) | (refine' xAl (by decide) rfl rfl rfl ?ha ?_) | (refine' xBp (by decide) rfl rfl rfl rfl ?ha ?_) | (refine' xBr (by decide) rfl ?ha ?_) | fail); try (case ha => simp only [kP, kQ, kA, kB]; try rfl))
  refine xCa (hK _ _ ?_)
  clear hK K
  refine xCg (fun Q hQ => ?_)
  try simp only [List.nil_append, List.cons_append]
  repeat ((first | refine' xBc rfl (.inl rfl) rfl ?hk ?ha ?_ | refine' xBc rfl (.inr rfl) rfl ?hk ?ha ?_ | (refine' xAz rfl rfl rfl inferInstance rfl ?hs rfl rfl ?hn ?hk ?ha ?_; (case hs => repeat (first | exact xAf.head | apply xAf.tail)); (case hn => first | rfl | simp)) | (refine' xAo rfl rfl rfl inferInstance rfl rfl ?hs ?hn ?hl ?hk ?ha ?_; (case hs => repeat (first | exact xAf.head | apply xAf.tail)); (case hn => first | exact oD rfl | (show _ < 4; with_reducible assumption) | (simp; try omega)); (case hl => first | with_reducible assumption | (simp only [nl, kA, kB]; first | done | rfl) | rfl)) | (refine' xAy rfl rfl rfl inferInstance rfl rfl ?hvn ?hs ?hn ?hl ?hk ?ha ?_; (case hvn => first | rfl | simp); (case hs => repeat (first | exact xAf.head | apply xAf.tail)); (case hn => first | exact oD rfl | (show _ < 4; with_reducible assumption) | (simp; try omega)); (case hl => first | with_reducible assumption | (simp only [nl, kA, kB]; first | done | rfl) | rfl)) | (refine' xBv rfl (fun w => ?hq) ?hk ?ha ?_; (case hq => go_simp; try rfl))); (case hk => intro p hp; first | exact absurd hp List.not_mem_nil | (obtain rfl := List.mem_singleton.1 hp; repeat (first | exact List.Mem.head _ | with_reducible assumption | apply mC))); (case ha => simp only [kP, kQ, kA, kB]; try rfl))
  refine xCh (fun w hR => hQ _ _ ?_)
  clear hQ Q
  go_wp2_with (first | (refine' xAe hR rfl rfl rfl ?_; clear hR; intro blk w hR) | (refine' xAb hR rfl rfl inferInstance ?_; clear hR; intro blk w hR) | (refine' xAc hR rfl rfl rfl inferInstance ?hm ?hn ?_; (case hm => first | with_reducible assumption | repeat (first | exact .head _ | with_reducible assumption | apply mC)); (case hn => first | rfl | simp)) | (refine' xAd hR rfl rfl rfl inferInstance ?hm ?hv ?hn ?_; (case hm => first | with_reducible assumption | repeat (first | exact .head _ | with_reducible assumption | apply mC)); (case hv => first | with_reducible assumption | (simp only [kC, kD, kE, kF]; try rfl)); (case hn => first | rfl | simp)) | (refine' xBg hR rfl rfl rfl inferInstance ?hm ?hv ?_; (case hm => first | with_reducible assumption | repeat (first | exact .head _ | with_reducible assumption | apply mC)); (case hv => first | rfl | with_reducible assumption)) | (refine' xAa hR rfl rfl rfl inferInstance rfl ?hs ?zone ?zvn ?hn ?_; (case hs => repeat (first | exact xAf.head | apply xAf.tail)); (case zone => first | rfl | with_reducible assumption); (case zvn => first | rfl | simp); (case hn => first | rfl | simp); clear hR; intro w hR) | (refine' xBe hR rfl rfl rfl inferInstance rfl rfl ?hs ?hn ?hl ?_; (case hs => repeat (first | exact xAf.head | apply xAf.tail)); (case hn => first | exact oD rfl | (show _ < 4; with_reducible assumption) | (simp; try omega)); (case hl => first | with_reducible assumption | (simp only [nl, kA, kB]; first | done | rfl) | rfl); clear hR; intro w hR) | fail)
  rw [rounds_succ]
  go_wp2_with (first | (refine' xAe hR rfl rfl rfl ?_; clear hR; intro blk w hR) | (refine' xAb hR rfl rfl inferInstance ?_; clear hR; intro blk w hR) | (refine' xAc hR rfl rfl rfl inferInstance ?hm ?hn ?_; (case hm => first | with_reducible assumption | repeat (first | exact .head _ | with_reducible assumption | apply mC)); (case hn => first | rfl | simp)) | (refine' xAd hR rfl rfl rfl inferInstance ?hm ?hv ?hn ?_; (case hm => first | with_reducible assumption | repeat (first | exact .head _ | with_reducible assumption | apply mC)); (case hv => first | with_reducible assumption | (simp only [kC, kD, kE, kF]; try rfl)); (case hn => first | rfl | simp)) | (refine' xBg hR rfl rfl rfl inferInstance ?hm ?hv ?_; (case hm => first | with_reducible assumption | repeat (first | exact .head _ | with_reducible assumption | apply mC)); (case hv => first | rfl | with_reducible assumption)) | (refine' xAa hR rfl rfl rfl inferInstance rfl ?hs ?zone ?zvn ?hn ?_; (case hs => repeat (first | exact xAf.head | apply xAf.tail)); (case zone => first | rfl | with_reducible assumption); (case zvn => first | rfl | simp); (case hn => first | rfl | simp); clear hR; intro w hR) | (refine' xBe hR rfl rfl rfl inferInstance rfl rfl ?hs ?hn ?hl ?_; (case hs => repeat (first | exact xAf.head | apply xAf.tail)); (case hn => first | exact oD rfl | (show _ < 4; with_reducible assumption) | (simp; try omega)); (case hl => first | with_reducible assumption | (simp only [nl, kA, kB]; first | done | rfl) | rfl); clear hR; intro w hR) | fail)
  go_end0
  exact ⟨rfl, hR⟩
noncomputable def plN (n : Nat) : List Nat := long32 fun k => w64 n (3 - k)
set_option maxRecDepth 100000 in
set_option maxHeartbeats 4000000 in
theorem put_long (n : Nat) (hR : Rep B0 w0 L w) : Calls Try.prog 113 #[.slice none 0 0, num n] w fun e w' => Fresh B0 w0 L e w' (plN n) := by
  have cp := fun (b : Nat) (hm : ∀ w, Rep B0 w0 ((b, .cells [Value.int .u64 (wd n 3), .int .u64 (wd n 2), .int .u64 (wd n 1), .int .u64 (wd n 0)].toArray 24) :: L) w → Rep B0 w0 ((b, .cells [Value.int .u64 (wd n 3), .int .u64 (wd n 2), .int .u64 (wd n 1), .int .u64 (wd n 0)].toArray 24) :: L) w) (w : World) (hR : Rep B0 w0 ((b, .cells [Value.int .u64 (wd n 3), .int .u64 (wd n 2), .int .u64 (wd n 1), .int .u64 (wd n 0)].toArray 24) :: L) w) => put_four (fun k => w64 n (3 - k)) (fun k => w64_lt _ _) b (fun w hw k hk => by
    have hc := fun (i : Nat) (v : Value) (hv : [Value.int .u64 (wd n 3), .int .u64 (wd n 2), .int .u64 (wd n 1), .int .u64 (wd n 0)][i]? = some v) => hw.cell (off := i) (.head _) hv
    have : k = 0 ∨ k = 1 ∨ k = 2 ∨ k = 3 := by omega
    rcases this with rfl | rfl | rfl | rfl
    · rw [hc 0 _ rfl, wd_eq]
    · rw [hc 1 _ rfl, wd_eq]
    · rw [hc 2 _ rfl, wd_eq]
    · rw [hc 3 _ rfl, wd_eq]) hR
  have cr := fun (b : Nat) (w : World) (hR : Rep B0 w0 ((b, .cells (nl n).toArray 24) :: L) w) => reverse_four (wd n 0) (wd n 1) (wd n 2) (wd n 3) hR
  go_enter Try.func113, Try.ntmps113
  go_wp2_with (first | (refine' xAe hR rfl rfl rfl ?_; clear hR; intro blk w hR) | (refine' xAb hR rfl rfl inferInstance ?_; clear hR; intro blk w hR) | (refine' xAc hR rfl rfl rfl inferInstance ?hm ?hn ?_; (case hm => first | with_reducible assumption | repeat (first | exact .head _ | with_reducible assumption | apply mC)); (case hn => first | rfl | simp)) | (refine' xAd hR rfl rfl rfl inferInstance ?hm ?hv ?hn ?_; (case hm => first | with_reducible assumption | repeat (first | exact .head _ | with_reducible assumption | apply mC)); (case hv => first | with_reducible assumption | (simp only [kC, kD, kE, kF]; try rfl)); (case hn => first | rfl | simp)) | (refine' xBg hR rfl rfl rfl inferInstance ?hm ?hv ?_; (case hm => first | with_reducible assumption | repeat (first | exact .head _ | with_reducible assumption | apply mC)); (case hv => first | rfl | with_reducible assumption)) | (refine' xAa hR rfl rfl rfl inferInstance rfl ?hs ?zone ?zvn ?hn ?_; (case hs => repeat (first | exact xAf.head | apply xAf.tail)); (case zone => first | rfl | with_reducible assumption); (case zvn => first | rfl | simp); (case hn => first | rfl | simp); clear hR; intro w hR) | (refine' xBe hR rfl rfl rfl inferInstance rfl rfl ?hs ?hn ?hl ?_; (case hs => repeat (first | exact xAf.head | apply xAf.tail)); (case hn => first | exact oD rfl | (show _ < 4; with_reducible assumption) | (simp; try omega)); (case hl => first | with_reducible assumption | (simp only [nl, kA, kB]; first | done | rfl) | rfl); clear hR; intro w hR) | (go_at_call 150; refine (cr _ _ hR).mono ?_; clear hR; rintro e w ⟨rfl, hR⟩) | (go_at_call 127; refine (cp _ (fun _ h => h) _ hR).mono ?_; clear hR; rintro e w ⟨g, cap, rfl, cur, ho, hR⟩; replace ho := Held.mk ho))
  go_ret
  exact ⟨g, cap, rfl, cur, ho.out, hR.weaken ((List.sublist_cons_self _ _).cons_cons _)⟩
end
end Go.Proofs.Ythbcgcncoggagaa
