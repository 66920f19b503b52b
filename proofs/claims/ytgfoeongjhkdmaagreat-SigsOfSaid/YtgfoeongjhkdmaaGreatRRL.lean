/- The contract of balefireref01.PutLong behind nothing. -/
import Derived.Test.YtgfoeongjhkdmaaGreatRX
import Derived.Test.YtgfoeongjhkdmaaGreatRGA
import Derived.Test.YtgfoeongjhkdmaaGreatRA
set_option linter.unusedVariables false
set_option linter.unusedSimpArgs false
namespace Go.Proofs.YtgfoeongjhkdmaaGreat
open Go.RowKit
attribute [local irreducible] Calls Instr.build Instr.buildSlice
noncomputable def plP (n k : Nat) : List Nat := (List.range k).flatMap fun j => beL 8 (w64 n (3 - j))
theorem plP_succ (n k : Nat) : plP n (k + 1) = plP n k ++ beL 8 (w64 n (3 - k)) := by unfold plP; rw [List.range_succ, List.flatMap_append]; simp
theorem plP_length (n : Nat) : ∀ k, (plP n k).length = 8 * k
  | 0 => rfl
  | k + 1 => by rw [plP_succ, List.length_append, plP_length n k, xBr]; omega
theorem plP_lt (n : Nat) : ∀ k j, (plP n k).getD j 0 < 256
  | 0, j => by show ([] : List Nat).getD j 0 < 256; simp
  | k + 1, j => by rw [plP_succ]; exact xBz (plP_lt n k) (beL_lt _ _) j
theorem plP_at (n : Nat) : ∀ k, k ≤ 4 → plP n k = (plN n).take (8 * k)
  | 0, _ => by simp [plP]
  | k + 1, h => by
    rw [plP_succ, plP_at n k (by omega)]
    refine List.ext_getElem? fun j => ?_
    have hl := xCk n
    by_cases h1 : j < 8 * k
    · rw [List.getElem?_append_left (by rw [List.length_take, hl]; omega), List.getElem?_take, List.getElem?_take, if_pos h1, if_pos (by omega)]
    · rw [List.getElem?_append_right (by rw [List.length_take, hl]; omega), List.length_take, hl, show min (8 * k) 32 = 8 * k by omega, List.getElem?_take]
      by_cases h2 : j < 8 * (k + 1)
      · rw [if_pos h2]
        have e1 : (beL 8 (w64 n (3 - k)))[j - 8 * k]? = some (beF 8 (w64 n (3 - k)) (j - 8 * k)) := by unfold beL; rw [List.getElem?_map, List.getElem?_range (by omega)]; rfl
        have e2 : (plN n)[j]? = some (putL (fun k => w64 n (3 - k)) j) := by unfold plN long32; rw [List.getElem?_map, List.getElem?_range (by omega)]; rfl
        rw [e1, e2]
        have := putL_at (fun k => w64 n (3 - k)) k (j - 8 * k) (by omega)
        rw [show 8 * k + (j - 8 * k) = j by omega] at this
        rw [this]
      · rw [if_neg h2, List.getElem?_eq_none (by rw [xBr]; omega)]
theorem plP_all (n : Nat) : plP n 4 = plN n := by
  rw [plP_at n 4 (Nat.le_refl _)]
  exact List.take_of_length_le (by rw [xCk]; omega)
section
variable {B0 : Nat} {w0 w : World} {L : List (Nat × Obj)}
set_option maxRecDepth 100000 in
set_option maxHeartbeats 4000000 in
theorem ref_long (n : Nat) (hR : Rep B0 w0 L w) : Calls Tryz.prog 36 #[.slice none 0 0, num n] w fun e w' => FreshG B0 w0 L e w' (plN n) := by
  have cp := fun (k : Nat) (x : Gro) (hk : k ≤ 3) (hx : GroOk x (plP n k)) (b : Nat) (w : World) (hw : Rep B0 w0 (x.bl ++ ((b, .cells (nl n).toArray 24) :: L)) w) => by
    have h := ref_put (.slice x.a (plP n k).length x.cap) (plP n k) 8 (w64 n (3 - k)) ⟨by decide, by decide⟩ (w64_lt _ _) (by rw [plP_length]; omega) (gro_at hx (plP_lt n k)) hw
    rw [← plP_succ, ← wd_eq, plP_length] at h
    exact h
  go_enter Tryz.func36, Tryz.ntmps36
  go_wp2_with (first | (refine' xAb hR rfl rfl rfl ?_; clear hR; intro blk w hR) | (refine' xAa hR rfl rfl inferInstance ?_; clear hR; intro blk w hR) | (refine' aAq hR rfl rfl rfl inferInstance ?_) | (refine' aBq hR rfl rfl rfl inferInstance ?_) | (refine' aCq hR rfl rfl rfl inferInstance ?_) | (refine' aDq hR rfl rfl rfl inferInstance rfl ?_; clear hR; intro w hR) | (refine' aEq hR rfl rfl rfl inferInstance rfl rfl ?_; clear hR; intro w hR) | fail)
  obtain ⟨b3, hb_⟩ : ∃ y, y = blk := ⟨_, rfl⟩
  subst hb_
  try simp only [Act.put, kA, kB, List.setIfInBounds_toArray]
  refine' loop_whileP (false :: false :: false :: false :: false :: false :: false :: false :: true :: true :: true :: true :: true :: true :: true :: true :: true :: false :: []) (fun (v : Nat × Gro) l => (l.set 5 (.slice v.2.a (8 * v.1) v.2.cap)).set 6 (.int .i64 (3 - (v.1 : Int)))) (fun v => v.2.bl ++ ((b3, .cells (nl n).toArray 24) :: L)) (fun v => 4 - v.1) (fun v => v.1 ≤ 4 ∧ GroOk v.2 (plP n v.1)) (0, ⟨none, 0, []⟩) ?h0 ?hO ?hR ?hs
  case h0 => exact xAu rfl rfl rfl
  case hO => exact ⟨Nat.zero_le _, .inl ⟨rfl, rfl⟩⟩
  case hR => exact hR
  case hs =>
    clear hR
    intro v tm w hO ht hR K hK
    obtain ⟨k, gr⟩ := v
    obtain ⟨hk, hx⟩ := hO
    simp only at hk hx ht hR
    have hm3 : (b3, Obj.cells (nl n).toArray 24) ∈ gr.bl ++ ((b3, .cells (nl n).toArray 24) :: L) := List.mem_append_right _ (.head _)
    by_cases h4 : k = 4
    · subst h4
      rw [plP_all] at hx
      clear hK cp
      replace hx := Held.mk hx
      have u1 : ¬ (0 : Int) ≤ -1 := by omega
      simp only [show (3 : Int) - ((4 : Nat) : Int) = -1 from rfl, show 8 * 4 = 32 from rfl] at ht
      repeat (first | (obtain ⟨x, tm', e, ht'⟩ := xAf ht; clear ht; subst e; have ht := ht'; clear ht') | (obtain ⟨tm', e, ht'⟩ := xAc ht; clear ht; subst e; have ht := ht'; clear ht'))
      obtain rfl := xAk ht
      clear ht
      go_wp2_with (first | (refine' xAb hR rfl rfl rfl ?_; clear hR; intro blk w hR) | (refine' xAa hR rfl rfl inferInstance ?_; clear hR; intro blk w hR) | (refine' aAq hR rfl rfl rfl inferInstance ?_) | (refine' aBq hR rfl rfl rfl inferInstance ?_) | (refine' aCq hR rfl rfl rfl inferInstance ?_) | (refine' aDq hR rfl rfl rfl inferInstance rfl ?_; clear hR; intro w hR) | (refine' aEq hR rfl rfl rfl inferInstance rfl rfl ?_; clear hR; intro w hR) | fail)
      go_ret
      refine ⟨gr, hx.out, ?_, hR.weaken (List.Sublist.append_left (List.sublist_cons_self _ _) _)⟩
      rw [xCk]
      rfl
    have hk3 : k ≤ 3 := by omega
    obtain ⟨i, hi⟩ : ∃ i, 3 - k = i := ⟨_, rfl⟩
    have c1 := cp k gr hk3 hx b3
    have ei : (3 : Int) - (k : Int) = (i : Int) := by omega
    have ei2 : IntKind.i64.wrap ((i : Int) - 1) = 3 - ((k + 1 : Nat) : Int) := by rw [IntKind.wrap_i64]; omega
    have g0 : 0 ≤ (i : Int) := by omega
    have g1 : (i : Int) < 4 := by omega
    have hcell : (nl n)[i]? = some (.int .u64 (wd n i)) := by
      have : i = 0 ∨ i = 1 ∨ i = 2 ∨ i = 3 := by omega
      rcases this with rfl | rfl | rfl | rfl <;> rfl
    have hk1 : k + 1 ≤ 4 := by omega
    have hmu : 4 - (k + 1) < 4 - k := by omega
    rw [hi] at c1
    rw [ei] at ht
    obtain ⟨m, hm⟩ : ∃ m, 8 * k = m := ⟨_, rfl⟩
    obtain ⟨m2, hm2⟩ : ∃ m, 8 * (k + 1) = m := ⟨_, rfl⟩
    have hlen : (plP n (k + 1)).length = m2 := by rw [plP_length, hm2]
    rw [hm] at c1 ht
    obtain ⟨ys, hys⟩ : ∃ ys, plP n (k + 1) = ys := ⟨_, rfl⟩
    rw [hys] at c1 hlen
    obtain ⟨b, rfl⟩ : ∃ b, b = b3 := ⟨_, rfl⟩
    replace hys := Held.mk hys
    replace hm2 := Held.mk hm2
    replace hlen := Held.mk hlen
    replace hk1 := Held.mk hk1
    replace hmu := Held.mk hmu
    clear hx cp hk h4 hk3 hi hm ei
    repeat (first | (obtain ⟨x, tm', e, ht'⟩ := xAf ht; clear ht; subst e; have ht := ht'; clear ht') | (obtain ⟨tm', e, ht'⟩ := xAc ht; clear ht; subst e; have ht := ht'; clear ht'))
    obtain rfl := xAk ht
    clear ht
    go_wp2_with (first | (refine' xAb hR rfl rfl rfl ?_; clear hR; intro blk w hR) | (refine' xAa hR rfl rfl inferInstance ?_; clear hR; intro blk w hR) | (refine' aAq hR rfl rfl rfl inferInstance ?_) | (refine' aBq hR rfl rfl rfl inferInstance ?_) | (refine' aCq hR rfl rfl rfl inferInstance ?_) | (refine' aDq hR rfl rfl rfl inferInstance rfl ?_; clear hR; intro w hR) | (refine' aEq hR rfl rfl rfl inferInstance rfl rfl ?_; clear hR; intro w hR) | (go_at_call 74; refine (c1 _ hR).mono ?_; clear hR; rintro e w ⟨og, hog, rfl, hR⟩; replace hog := Held.mk hog))
    refine hK.out (k + 1, og) _ _ ⟨hk1.out, by rw [hys.out]; exact hog.out⟩ hmu.out (by simp only [hm2.out, ← hlen.out]; exact xAu rfl rfl rfl) ?_
    exact hR.weaken (List.Sublist.append_left (List.sublist_append_right _ _) _)
theorem ref_made (n : Nat) (hR : Rep B0 w0 L w) : Calls Tryz.prog 36 #[.slice none 0 0, num n] w fun e w' => ∃ v, e = .returned v ∧ outW B0 w0 (Made B0 w0 L (plN n)) v w' :=
  (ref_long n hR).mono fun e w' ⟨x, hx, he, hR'⟩ => by
    rcases hx with ⟨_, h0⟩ | ⟨g, cur, e1, e2, h1, h2, h3, h4⟩
    · have := xCk n
      rw [h0] at this
      cases this
    · rw [e1, xCk] at he
      rw [e2] at hR'
      exact ⟨_, he, _, ⟨g, x.cap, cur, rfl, ⟨h1, h2, h3, h4, fun j => long32_lt _ j⟩, rfl⟩, hR'⟩
end
end Go.Proofs.YtgfoeongjhkdmaaGreat
