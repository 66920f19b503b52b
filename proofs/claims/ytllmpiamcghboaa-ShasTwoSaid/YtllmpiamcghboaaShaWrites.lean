/- The contract of (*Sum).writes. -/
import Derived.Test.YtllmpiamcghboaaShaSum
set_option linter.unusedSimpArgs false
set_option linter.unusedVariables false
namespace Go.Proofs.Ytllmpiamcghboaa
open Go.RowKit
attribute [local irreducible] Calls

/-- A loop that goes on while a measure falls, over memory of its own, told up to some slots. -/
theorem loop_while {α : Type} {P : Program} {c : Code} {Q : Exit → Act → World → Prop} {l : List Value} {d : List Deferred} {w w0 : World} {B0 : Nat} (mask : List Bool) (upd : α → List Value → List Value) (L : α → List (Nat × Obj)) (μ : α → Nat) (Ok : α → Prop) (x0 : α)
    (h0 : agree mask (upd x0 l) l) (hO : Ok x0) (hR : Rep B0 w0 (L x0) w)
    (hs : ∀ x tm w, Ok x → agree mask (upd x l) tm → Rep B0 w0 (L x) w → ∀ K : Act → World → Prop, Held (∀ y tm' w', Ok y → μ y < μ x → agree mask (upd y l) tm' → Rep B0 w0 (L y) w' → K ⟨tm'.toArray, d⟩ w') → c.wp P (Exit.then K Q) ⟨tm.toArray, d⟩ w) : (Code.loop c).wp P Q ⟨l.toArray, d⟩ w := by
  have key : ∀ n x, μ x ≤ n → Ok x → ∀ tm w, agree mask (upd x l) tm → Rep B0 w0 (L x) w → Code.rounds P c Q (n + 1) ⟨tm.toArray, d⟩ w := by
    intro n
    induction n with
    | zero => intro x hx hO tm w h1 h2; exact hs x tm w hO h1 h2 _ ⟨fun y tm' w' _ hy _ _ => by omega⟩
    | succ n ih =>
      intro x hx hO tm w h1 h2
      exact hs x tm w hO h1 h2 _ ⟨fun y tm' w' hO' hy h1' h2' => ih y (by omega) hO' tm' w' h1' h2'⟩
  exact wp_loop_rounds (μ x0 + 1) (key (μ x0) x0 (Nat.le_refl _) hO l w h0 hR)

theorem getD_take_of_lt (l : List Nat) (c j : Nat) (h : j < c) : (l.take c).getD j 0 = l.getD j 0 := by
  rw [List.getD_eq_getElem?_getD, List.getD_eq_getElem?_getD, List.getElem?_take, if_pos h]
theorem getD_app_right (m l : List Nat) (j : Nat) : (m ++ l).getD (m.length + j) 0 = l.getD j 0 := by
  rw [List.getD_eq_getElem?_getD, List.getD_eq_getElem?_getD, List.getElem?_append_right (by omega), Nat.add_sub_cancel_left]
theorem getD_app_left (m l : List Nat) {j : Nat} (h : j < m.length) : (m ++ l).getD j 0 = m.getD j 0 := by
  rw [List.getD_eq_getElem?_getD, List.getD_eq_getElem?_getD, List.getElem?_append_left h]
/-- The rest of a message, behind its blocks. -/
structure TailOk (m : List Nat) (r : Nat → Nat) : Prop where
  byte : ∀ j, r j < 256
  is : ∀ j, j < m.length % 64 → r j = m.getD (64 * (m.length / 64) + j) 0
/-- Some more bytes behind a message. -/
theorem tail_more {m : List Nat} {r : Nat → Nat} (h : TailOk m r) {k n : Nat} {x : Nat → Nat} {l : List Nat} (hk : m.length % 64 = k) (hl : l.length = n) (hn : k + n ≤ 64) (hx : ∀ j, j < n → x j = l.getD j 0) (hb : ∀ j, x j < 256) :
    (∀ j, laid r k n x j < 256) ∧ (∀ j, j < k + n → laid r k n x j = (m ++ l).getD (64 * (m.length / 64) + j) 0) := by
  refine ⟨fun j => ?_, fun j hj => ?_⟩
  · unfold laid; split
    · exact hb _
    · exact h.byte j
  · unfold laid
    by_cases h1 : k ≤ j
    · rw [if_pos ⟨h1, hj⟩, hx _ (by omega), show 64 * (m.length / 64) + j = m.length + (j - k) by omega, getD_app_right]
    · rw [if_neg (by omega), h.is j (by omega), getD_app_left _ _ (by omega)]
theorem tail_next {m : List Nat} {r : Nat → Nat} (h : TailOk m r) {k n : Nat} {x : Nat → Nat} {l : List Nat} (hk : m.length % 64 = k) (hl : l.length = n) (hn : k + n < 64) (hx : ∀ j, j < n → x j = l.getD j 0) (hb : ∀ j, x j < 256) :
    TailOk (m ++ l) (laid r k n x) ∧ blocksN (m ++ l) ((m ++ l).length / 64) = blocksN m (m.length / 64) := by
  obtain ⟨h1, h2⟩ := tail_more h hk hl (by omega) hx hb
  have e : (m ++ l).length / 64 = m.length / 64 := by rw [List.length_append, hl]; omega
  refine ⟨⟨h1, fun j hj => ?_⟩, ?_⟩
  · rw [e]
    exact h2 j (by rw [List.length_append, hl] at hj; omega)
  · rw [e]
    exact blocksN_append _ _ _ (by omega)
theorem tail_full {m : List Nat} {r : Nat → Nat} (h : TailOk m r) {k n : Nat} {x : Nat → Nat} {l : List Nat} (hk : m.length % 64 = k) (hl : l.length = n) (hn : k + n = 64) (hx : ∀ j, j < n → x j = l.getD j 0) (hb : ∀ j, x j < 256) :
    TailOk (m ++ l) (laid r k n x) ∧ blocksN (m ++ l) ((m ++ l).length / 64) = takeN (blocksN m (m.length / 64)) (laid r k n x) := by
  obtain ⟨h1, h2⟩ := tail_more h hk hl (by omega) hx hb
  have e : (m ++ l).length / 64 = m.length / 64 + 1 := by rw [List.length_append, hl]; omega
  refine ⟨⟨h1, fun j hj => ?_⟩, ?_⟩
  · rw [List.length_append, hl] at hj
    omega
  · rw [e]
    show takeN (blocksN (m ++ l) (m.length / 64)) _ = _
    rw [blocksN_append _ _ _ (by omega)]
    exact takeN_congr _ fun j hj => (h2 j (by omega)).symm
theorem drop_take_append (m xs : List Nat) (c n : Nat) : (m ++ xs.take c) ++ (xs.drop c).take n = m ++ xs.take (c + n) := by
  rw [List.append_assoc, ← List.take_add]

/-- A sum of a message. -/
noncomputable abbrev sumC (m : List Nat) (r : Nat → Nat) : Obj := .cells (sumL (blocksN m (m.length / 64)) r m.length).toArray 31

/-- What is left of the bytes. -/
structure WSt where
  c : Nat
  r : Nat → Nat
  v : Value
structure WOk (m xs : List Nat) (bb off cap : Nat) (x : WSt) : Prop where
  le : x.c ≤ xs.length
  tail : TailOk (m ++ xs.take x.c) x.r
  more : x.c < xs.length → x.v = .slice (some ⟨bb, off + x.c, none⟩) (xs.length - x.c) (cap - x.c)
  over : x.c = xs.length → ∃ a cp, x.v = .slice a 0 cp

theorem cell_addr {w : World} {b off j : Nat} {u : Value} (h : w.cell? ⟨b, off + j, none⟩ = some u) : w.cell? ((⟨b, off, none⟩ : Addr).add j) = some u := by
  have e : ((⟨b, off, none⟩ : Addr).add j) = ⟨b, off + j, none⟩ := by
    unfold Addr.add; split <;> simp_all
  rw [e]; exact h

set_option maxRecDepth 100000 in
set_option maxHeartbeats 4000000 in
theorem writes_some {B0 : Nat} {w0 w : World} {L : List (Nat × Obj)} (sb : Nat) (m xs : List Nat) (r : Nat → Nat) (bb off cap : Nat) (hb : ∀ j, xs.getD j 0 < 256) (hr : TailOk m r) (hbig : m.length + xs.length < 1000000000000) (hcap : xs.length ≤ cap) (hcap2 : cap ≤ maxLen)
    (hR : Rep B0 w0 ((sb, sumC m r) :: L) w) (hS : ∀ w, Rep B0 w0 L w → ∀ j, j < xs.length → w.cell? ⟨bb, off + j, none⟩ = some (.int .u8 (xs.getD j 0 : Nat))) :
    Calls Try.prog 21 #[.pointer (some ⟨sb, 0, none⟩), .slice (some ⟨bb, off, none⟩) xs.length cap] w fun e w' => e = .returned (.tuple #[]) ∧ ∃ r', TailOk (m ++ xs) r' ∧ Rep B0 w0 ((sb, sumC (m ++ xs) r') :: L) w' := by
  go_enter Try.func21, Try.ntmps21
  go_wp2_with (first | (refine' wpList_boxRep hR rfl rfl rfl ?_; clear hR; intro blk w hR) | (refine' wpList_allocRep hR rfl rfl ?hT ?_; (case hT => exact inferInstance); clear hR; intro blk w hR) | (refine' wpList_loadAll hR rfl rfl rfl ?hT ?hm ?hn ?_; (case hT => exact inferInstance); (case hm => first | with_reducible assumption | repeat (first | exact List.Mem.head _ | apply List.Mem.tail)); (case hn => first | rfl | (simp; done))) | (refine' wpList_loadRow hR rfl rfl rfl ?hT ?hm ?hv ?hn ?_; (case hT => exact inferInstance); (case hm => first | with_reducible assumption | repeat (first | exact List.Mem.head _ | apply List.Mem.tail)); (case hv => first | with_reducible assumption | (simp only [List.drop_succ_cons, List.drop_zero, List.take_succ_cons, List.take_zero]; first | done | rfl)); (case hn => first | rfl | (simp; done))) | (refine' wpList_loadCell hR rfl rfl rfl ?hT ?hm ?hv ?_; (case hT => exact inferInstance); (case hm => first | with_reducible assumption | repeat (first | exact List.Mem.head _ | apply List.Mem.tail)); (case hv => first | rfl | with_reducible assumption)) | (refine' wpList_storeAll hR rfl rfl rfl ?hT rfl ?hs ?zone ?zvn ?hn ?_; (case hT => exact inferInstance); (case hs => repeat (first | exact SetAt.head | apply SetAt.tail)); (case zone => first | rfl | with_reducible assumption); (case zvn => first | rfl | (simp; done)); (case hn => first | rfl | (simp; done)); clear hR; intro w hR) | (refine' wpList_storeCell hR rfl rfl rfl ?hT rfl rfl ?hs ?hn ?hl ?_; (case hT => exact inferInstance); (case hs => repeat (first | exact SetAt.head | apply SetAt.tail)); (case hn => first | exact of_decide_eq_true rfl | (show _ < 4; with_reducible assumption) | (simp; done) | (simp; omega)); (case hl => first | with_reducible assumption | (simp only [List.set_cons_zero, List.set_cons_succ]; done) | (simp only [List.set_cons_zero, List.set_cons_succ]; rfl) | (simp only [nl, List.set_cons_zero, List.set_cons_succ]; done) | (simp only [nl, List.set_cons_zero, List.set_cons_succ]; rfl) | rfl); clear hR; intro w hR) | fail)
  refine' loop_while (false :: false :: false :: false :: true :: true :: true :: true :: true :: true :: true :: true :: true :: true :: true :: true :: true :: true :: true :: true :: true :: true :: true :: true :: true :: true :: true :: true :: true :: true :: true :: true :: true :: true :: true :: true :: true :: true :: true :: true :: true :: true :: true :: true :: true :: true :: true :: true :: true :: true :: []) (fun (x : WSt) l => l.set 1 x.v) (fun x => (sb, sumC (m ++ xs.take x.c) x.r) :: L) (fun x => xs.length - x.c) (WOk m xs bb off cap) ⟨0, r, .slice (some ⟨bb, off, none⟩) xs.length cap⟩ ?h0 ?hO ?hR ?hs
  case h0 => exact agree_of rfl rfl rfl
  case hO => exact ⟨Nat.zero_le _, by simpa using hr, fun _ => rfl, fun h => ⟨_, _, by rw [← h]⟩⟩
  case hR => simpa using hR
  case hs =>
    clear hR
    intro x tm w hO ht hR K hK
    obtain ⟨c, r1, v⟩ := x
    obtain ⟨hle, htl, hmore, hover⟩ := hO
    simp only at hle htl hmore hover ht hR
    by_cases hc : c = xs.length
    · obtain ⟨a, cp, rfl⟩ := hover hc
      clear hmore hover hK
      repeat (first | (obtain ⟨x, tm', e, ht'⟩ := agree_true ht; clear ht; subst e; have ht := ht'; clear ht') | (obtain ⟨tm', e, ht'⟩ := agree_false ht; clear ht; subst e; have ht := ht'; clear ht'))
      obtain rfl := agree_nil ht
      clear ht
      go_wp2_with (first | (refine' wpList_boxRep hR rfl rfl rfl ?_; clear hR; intro blk w hR) | (refine' wpList_allocRep hR rfl rfl ?hT ?_; (case hT => exact inferInstance); clear hR; intro blk w hR) | (refine' wpList_loadAll hR rfl rfl rfl ?hT ?hm ?hn ?_; (case hT => exact inferInstance); (case hm => first | with_reducible assumption | repeat (first | exact List.Mem.head _ | apply List.Mem.tail)); (case hn => first | rfl | (simp; done))) | (refine' wpList_loadRow hR rfl rfl rfl ?hT ?hm ?hv ?hn ?_; (case hT => exact inferInstance); (case hm => first | with_reducible assumption | repeat (first | exact List.Mem.head _ | apply List.Mem.tail)); (case hv => first | with_reducible assumption | (simp only [List.drop_succ_cons, List.drop_zero, List.take_succ_cons, List.take_zero]; first | done | rfl)); (case hn => first | rfl | (simp; done))) | (refine' wpList_loadCell hR rfl rfl rfl ?hT ?hm ?hv ?_; (case hT => exact inferInstance); (case hm => first | with_reducible assumption | repeat (first | exact List.Mem.head _ | apply List.Mem.tail)); (case hv => first | rfl | with_reducible assumption)) | (refine' wpList_storeAll hR rfl rfl rfl ?hT rfl ?hs ?zone ?zvn ?hn ?_; (case hT => exact inferInstance); (case hs => repeat (first | exact SetAt.head | apply SetAt.tail)); (case zone => first | rfl | with_reducible assumption); (case zvn => first | rfl | (simp; done)); (case hn => first | rfl | (simp; done)); clear hR; intro w hR) | (refine' wpList_storeCell hR rfl rfl rfl ?hT rfl rfl ?hs ?hn ?hl ?_; (case hT => exact inferInstance); (case hs => repeat (first | exact SetAt.head | apply SetAt.tail)); (case hn => first | exact of_decide_eq_true rfl | (show _ < 4; with_reducible assumption) | (simp; done) | (simp; omega)); (case hl => first | with_reducible assumption | (simp only [List.set_cons_zero, List.set_cons_succ]; done) | (simp only [List.set_cons_zero, List.set_cons_succ]; rfl) | (simp only [nl, List.set_cons_zero, List.set_cons_succ]; done) | (simp only [nl, List.set_cons_zero, List.set_cons_succ]; rfl) | rfl); clear hR; intro w hR) | fail)
      go_end0
      subst hc
      rw [List.take_length] at htl hR
      exact ⟨rfl, r1, htl, hR⟩
    · obtain rfl := hmore (by omega)
      clear hover hmore
      obtain ⟨q, hq⟩ : ∃ q, xs.length - c = q := ⟨_, rfl⟩
      obtain ⟨cp, hcp⟩ : ∃ q, cap - c = q := ⟨_, rfl⟩
      obtain ⟨bo, hbo⟩ : ∃ q, off + c = q := ⟨_, rfl⟩
      obtain ⟨N, hN⟩ : ∃ N, (m ++ xs.take c).length = N := ⟨_, rfl⟩
      have hN' : N = m.length + c := by rw [← hN]; simp; omega
      obtain ⟨k, hk⟩ : ∃ k, N % 64 = k := ⟨_, rfl⟩
      rw [hq, hcp, hbo] at ht
      have s0 := sumL_many (blocksN (m ++ xs.take c) (N / 64)) r1 N
      unfold sumC at hR
      rw [hN] at hR
      have g0 : (0 : Int) < (q : Int) := by omega
      have e1 : (N : Int).tmod 64 = (k : Int) := by rw [Int.tmod_eq_emod_of_nonneg (by omega)]; omega
      have e2 : (N : Int) % 64 = (k : Int) := by omega
      have e3 : IntKind.i64.wrap (k : Int) = (k : Int) := by rw [IntKind.wrap_i64]; omega
      have g1 : 0 ≤ (k : Int) := by omega
      have g2 : (k : Int) ≤ 64 := by omega
      have g3 : (k : Int) < 64 := by omega
      obtain ⟨n, hn⟩ : ∃ n, Nat.min q (64 - k) = n := ⟨_, rfl⟩
      have hmin : Nat.min q (64 - k) = min q (64 - k) := rfl
      rw [hmin] at hn
      clear hmin
      obtain ⟨N', hN2⟩ : ∃ x, N + n = x := ⟨_, rfl⟩
      obtain ⟨kn, hkn⟩ : ∃ x, k + n = x := ⟨_, rfl⟩
      have f1 : IntKind.u64.wrap (n : Int) = (n : Int) := by rw [IntKind.wrap_u64]; omega
      have f2 : IntKind.u64.wrap ((N : Int) + (n : Int)) = (N' : Int) := by rw [IntKind.wrap_u64]; omega
      have f3 : IntKind.i64.wrap ((k : Int) + (n : Int)) = (kn : Int) := by rw [IntKind.wrap_i64]; omega
      have b0 : 0 ≤ (n : Int) := by omega
      have hcut := cut_slice bb bo q cp n (by omega) (by omega) (by omega)
      have ev : ∃ v' : Value, (∀ w, (Instr.sliceAt 24 (.slice (some ⟨bb, bo, none⟩) q cp) (some (.int .i64 (n : Int))) none none).run Try.prog w = .ok v' w) ∧ (c + n < xs.length → v' = .slice (some ⟨bb, off + (c + n), none⟩) (xs.length - (c + n)) (cap - (c + n))) ∧ (c + n = xs.length → ∃ a cp, v' = .slice a 0 cp) := by
        refine ⟨_, hcut, fun h => ?_, fun h => ⟨some (if cp = n then ⟨bb, bo, none⟩ else ⟨bb, bo + n, none⟩), cp - n, ?_⟩⟩
        · rw [if_neg (by omega), show bo + n = off + (c + n) by omega, show q - n = xs.length - (c + n) by omega, show cp - n = cap - (c + n) by omega]
        · rw [show q - n = 0 by omega]
      obtain ⟨v', hv, hv1, hv2⟩ := ev
      clear hcut
      have hx : ∀ j, j < n → (fun j => xs.getD (c + j) 0) j = ((xs.drop c).take n).getD j 0 := fun j hj => by
        show xs.getD (c + j) 0 = _
        rw [getD_take_of_lt _ _ _ hj, List.getD_eq_getElem?_getD, List.getD_eq_getElem?_getD, List.getElem?_drop]
      have hl : ((xs.drop c).take n).length = n := by simp; omega
      have hb' : ∀ j, (fun j => xs.getD (c + j) 0) j < 256 := fun j => hb _
      have hk' : (m ++ xs.take c).length % 64 = k := by rw [hN]; exact hk
      have hcopy := sumL_copy (blocksN (m ++ xs.take c) (N / 64)) r1 (fun j => xs.getD (c + j) 0) N k n (by omega)
      have hsrc : ∀ w, Rep B0 w0 L w → ∀ j v, (u8s n (fun j => xs.getD (c + j) 0))[j]? = some v → w.cell? ((⟨bb, bo, none⟩ : Addr).add j) = some v := fun w hw j v hj => by
        have hjn : j < n := by
          have := (List.getElem?_eq_some_iff.1 hj).1
          simpa using this
        rw [u8s_at hjn] at hj
        rw [← Option.some.inj hj]
        have := hS w hw (c + j) (by omega)
        rw [show off + (c + j) = bo + j by omega] at this
        exact cell_addr this
      have hfull : kn = 64 → TailOk (m ++ xs.take (c + n)) (laid r1 k n fun j => xs.getD (c + j) 0) ∧ blocksN (m ++ xs.take (c + n)) ((m ++ xs.take (c + n)).length / 64) = takeN (blocksN (m ++ xs.take c) (N / 64)) (laid r1 k n fun j => xs.getD (c + j) 0) := fun h => by
        have := tail_full htl hk' hl (by omega) hx hb'
        rw [drop_take_append, hN] at this
        exact this
      have hnext : kn < 64 → TailOk (m ++ xs.take (c + n)) (laid r1 k n fun j => xs.getD (c + j) 0) ∧ blocksN (m ++ xs.take (c + n)) ((m ++ xs.take (c + n)).length / 64) = blocksN (m ++ xs.take c) (N / 64) := fun h => by
        have := tail_next htl hk' hl (by omega) hx hb'
        rw [drop_take_append, hN] at this
        exact this
      have hlen : (m ++ xs.take (c + n)).length = N' := by simp; omega
      have hok := blocksN_ok (m ++ xs.take c) (N / 64)
      have hone := u8s_mem n fun j => xs.getD (c + j) 0
      have hln := u8s_length n fun j => xs.getD (c + j) 0
      have s9 : ∀ r h, (sumL h r N).set 73 (.int .u64 (N' : Int)) = sumL h r N' := fun r h => sumL_setMany h r N N'
      have hfit : 9 + k + n ≤ (sumL (blocksN (m ++ xs.take c) (N / 64)) r1 N).length := by rw [sumL_length]; omega
      generalize laid r1 k n (fun j => xs.getD (c + j) 0) = r2 at *
      generalize u8s n (fun j => xs.getD (c + j) 0) = cs at *
      generalize blocksN (m ++ xs.take c) (N / 64) = h1 at *
      have s1 := sumL_many h1 r2 N
      have s10 := s9 r2 h1
      have hmn : n = Nat.min q (64 - k) := hn.symm
      have hle2 : c + n ≤ xs.length := by omega
      have hpos : 0 < n := by omega
      clear htl hx hl hb' hk' s9
      replace hN' := Held.mk hN'
      replace hk := Held.mk hk
      replace hq := Held.mk hq
      replace hcp := Held.mk hcp
      replace hbo := Held.mk hbo
      replace hn := Held.mk hn
      replace hN := Held.mk hN
      replace hN2 := Held.mk hN2
      replace hkn := Held.mk hkn
      replace hlen := Held.mk hlen
      replace hmn := Held.mk hmn
      replace hln := Held.mk hln
      replace hcopy := Held.mk hcopy
      replace hv1 := Held.mk hv1
      replace hv2 := Held.mk hv2
      replace hfull := Held.mk hfull
      replace hnext := Held.mk hnext
      by_cases h64 : kn = 64
      · have t1 : ((kn : Int) == 64) = true := by simp; omega
        repeat (first | (obtain ⟨x, tm', e, ht'⟩ := agree_true ht; clear ht; subst e; have ht := ht'; clear ht') | (obtain ⟨tm', e, ht'⟩ := agree_false ht; clear ht; subst e; have ht := ht'; clear ht'))
        obtain rfl := agree_nil ht
        clear ht
        go_wp2_with (first | (refine' wpList_boxRep hR rfl rfl rfl ?_; clear hR; intro blk w hR) | (refine' wpList_allocRep hR rfl rfl ?hT ?_; (case hT => exact inferInstance); clear hR; intro blk w hR) | (refine' wpList_loadAll hR rfl rfl rfl ?hT ?hm ?hn ?_; (case hT => exact inferInstance); (case hm => first | with_reducible assumption | repeat (first | exact List.Mem.head _ | apply List.Mem.tail)); (case hn => first | rfl | (simp; done))) | (refine' wpList_loadRow hR rfl rfl rfl ?hT ?hm ?hv ?hn ?_; (case hT => exact inferInstance); (case hm => first | with_reducible assumption | repeat (first | exact List.Mem.head _ | apply List.Mem.tail)); (case hv => first | with_reducible assumption | (simp only [List.drop_succ_cons, List.drop_zero, List.take_succ_cons, List.take_zero]; first | done | rfl)); (case hn => first | rfl | (simp; done))) | (refine' wpList_loadCell hR rfl rfl rfl ?hT ?hm ?hv ?_; (case hT => exact inferInstance); (case hm => first | with_reducible assumption | repeat (first | exact List.Mem.head _ | apply List.Mem.tail)); (case hv => first | rfl | with_reducible assumption)) | (refine' wpList_storeAll hR rfl rfl rfl ?hT rfl ?hs ?zone ?zvn ?hn ?_; (case hT => exact inferInstance); (case hs => repeat (first | exact SetAt.head | apply SetAt.tail)); (case zone => first | rfl | with_reducible assumption); (case zvn => first | rfl | (simp; done)); (case hn => first | rfl | (simp; done)); clear hR; intro w hR) | (refine' wpList_storeCell hR rfl rfl rfl ?hT rfl rfl ?hs ?hn ?hl ?_; (case hT => exact inferInstance); (case hs => repeat (first | exact SetAt.head | apply SetAt.tail)); (case hn => first | exact of_decide_eq_true rfl | (show _ < 4; with_reducible assumption) | (simp; done) | (simp; omega)); (case hl => first | with_reducible assumption | (simp only [List.set_cons_zero, List.set_cons_succ]; done) | (simp only [List.set_cons_zero, List.set_cons_succ]; rfl) | (simp only [nl, List.set_cons_zero, List.set_cons_succ]; done) | (simp only [nl, List.set_cons_zero, List.set_cons_succ]; rfl) | rfl); clear hR; intro w hR) | (refine' wpList_copyRep hR rfl rfl Try.underlying24 sz_u8 rfl rfl cs hln.out SetAt.head hmn.out (hsrc w (hR.weaken (List.sublist_cons_self _ _))) hfit hone hcopy.out ?_; clear hR; intro w hR))
        have ct := fun w => take_any h1 r2 hok (hfull.out h64).1.byte w
        have u1 := sumL_now h1 r2 N'
        have u2 := sumL_rest h1 r2 N'
        have u3 := sumL_setNow h1 (takeN h1 r2) r2 N'
        have hf := hfull.out h64
        clear hfull hnext h64
        generalize takeN h1 r2 = h2 at *
        replace hf := Held.mk hf
        refine wp_region_ord hR [0, 0, 0, 0, 0, 0, 0, 0, 0, 0, 0, 0, 2] [] mixed (by kernel_rfl) rfl rfl (fun K hK => ?_)
        clear hR
        repeat (first | (refine hd_tail ?_) | (refine' hd_move (by decide) rfl (.inl rfl) rfl ?ha ?_; (case ha => simp only [Act.put, List.setIfInBounds_toArray, List.set_cons_zero, List.set_cons_succ]; try rfl)) | (refine' hd_move (by decide) rfl (.inr rfl) rfl ?ha ?_; (case ha => simp only [Act.put, List.setIfInBounds_toArray, List.set_cons_zero, List.set_cons_succ]; try rfl)) | (refine' hd_loadAll rfl rfl rfl ?hT ?hm ?hn ?ha ?_; (case hT => exact inferInstance); (case hm => first | with_reducible assumption | repeat (first | exact List.Mem.head _ | apply List.Mem.tail)); (case hn => first | rfl | (simp; done)); (case ha => simp only [Act.put, List.setIfInBounds_toArray, List.set_cons_zero, List.set_cons_succ]; try rfl)) | (refine' hd_loadRow rfl rfl rfl ?hT ?hm ?hv ?hn ?ha ?_; (case hT => exact inferInstance); (case hm => first | with_reducible assumption | repeat (first | exact List.Mem.head _ | apply List.Mem.tail)); (case hv => first | with_reducible assumption | (simp only [List.drop_succ_cons, List.drop_zero, List.take_succ_cons, List.take_zero]; first | done | rfl)); (case hn => first | rfl | (simp; done)); (case ha => simp only [Act.put, List.setIfInBounds_toArray, List.set_cons_zero, List.set_cons_succ]; try rfl)) | (refine' hd_loadCell rfl rfl rfl ?hT ?hm ?hv ?ha ?_; (case hT => exact inferInstance); (case hm => first | with_reducible assumption | repeat (first | exact List.Mem.head _ | apply List.Mem.tail)); (case hv => first | rfl | with_reducible assumption); (case ha => simp only [Act.put, List.setIfInBounds_toArray, List.set_cons_zero, List.set_cons_succ]; try rfl)) | (refine' hd_keepRow rfl rfl rfl ?hT ?hm ?hv ?hn ?ha ?_; (case hT => exact inferInstance); (case hm => first | with_reducible assumption | repeat (first | exact List.Mem.head _ | apply List.Mem.tail)); (case hv => first | with_reducible assumption | (simp only [List.drop_succ_cons, List.drop_zero, List.take_succ_cons, List.take_zero]; first | done | rfl)); (case hn => first | rfl | (simp; done)); (case ha => simp only [Act.put, List.setIfInBounds_toArray, List.set_cons_zero, List.set_cons_succ]; try rfl)) | (refine' hd_keepCell rfl rfl rfl ?hT ?hm ?hv ?ha ?_; (case hT => exact inferInstance); (case hm => first | with_reducible assumption | repeat (first | exact List.Mem.head _ | apply List.Mem.tail)); (case hv => first | rfl | with_reducible assumption); (case ha => simp only [Act.put, List.setIfInBounds_toArray, List.set_cons_zero, List.set_cons_succ]; try rfl)) | (refine' hd_indexAddr (by decide) rfl rfl rfl rfl (fun w => ?hq) ?ha ?_; (case hq => go_simp; first | done | rfl); (case ha => simp only [Act.put, List.setIfInBounds_toArray, List.set_cons_zero, List.set_cons_succ]; try rfl)) | (refine' hd_binOp (by decide) rfl rfl rfl rfl (fun w => ?hq) ?ha ?_; (case hq => go_simp; first | done | rfl); (case ha => simp only [Act.put, List.setIfInBounds_toArray, List.set_cons_zero, List.set_cons_succ]; try rfl)) | (refine' hd_extract (by decide) rfl rfl rfl (fun w => ?hq) ?ha ?_; (case hq => go_simp; first | done | rfl); (case ha => simp only [Act.put, List.setIfInBounds_toArray, List.set_cons_zero, List.set_cons_succ]; try rfl)) | (refine' hd_nilCheck (by decide) rfl rfl rfl ?ha ?_; (case ha => simp only [Act.put, List.setIfInBounds_toArray, List.set_cons_zero, List.set_cons_succ]; try rfl)) | (refine' hd_fieldAddr (by decide) rfl rfl rfl (fun w => ?hq) ?ha ?_; (case hq => go_simp; first | done | rfl); (case ha => simp only [Act.put, List.setIfInBounds_toArray, List.set_cons_zero, List.set_cons_succ]; try rfl)) | (refine' hd_convert (by decide) rfl rfl rfl (fun w => ?hq) ?ha ?_; (case hq => go_simp; first | done | rfl); (case ha => simp only [Act.put, List.setIfInBounds_toArray, List.set_cons_zero, List.set_cons_succ]; try rfl)) | (refine' hd_index (by decide) rfl rfl rfl rfl (fun w => ?hq) ?ha ?_; (case hq => go_simp; first | done | rfl); (case ha => simp only [Act.put, List.setIfInBounds_toArray, List.set_cons_zero, List.set_cons_succ]; try rfl)) | (refine' hd_pick (by decide) rfl rfl rfl rfl ?ha ?_; (case ha => simp only [Act.put, List.setIfInBounds_toArray, List.set_cons_zero, List.set_cons_succ]; try rfl)) | (refine' hd_slice (by decide) rfl rfl rfl rfl rfl rfl (fun w => ?hq) ?ha ?_; (case hq => go_simp; first | done | rfl); (case ha => simp only [Act.put, List.setIfInBounds_toArray, List.set_cons_zero, List.set_cons_succ]; try rfl)) | (refine' hd_build (by decide) rfl rfl (fun w => ?hq) ?ha ?_; (case hq => go_simp; first | done | rfl); (case ha => simp only [Act.put, List.setIfInBounds_toArray, List.set_cons_zero, List.set_cons_succ]; try rfl)) | (refine' hd_arrayAt (by decide) rfl rfl rfl (fun w => ?hq) ?ha ?_; (case hq => go_simp; first | done | rfl); (case ha => simp only [Act.put, List.setIfInBounds_toArray, List.set_cons_zero, List.set_cons_succ]; try rfl)) | (refine' hd_field (by decide) rfl rfl rfl (fun w => ?hq) ?ha ?_; (case hq => go_simp; first | done | rfl); (case ha => simp only [Act.put, List.setIfInBounds_toArray, List.set_cons_zero, List.set_cons_succ]; try rfl)) | (refine' hd_skip (by decide) rfl ?ha ?_; (case ha => simp only [Act.put, List.setIfInBounds_toArray, List.set_cons_zero, List.set_cons_succ]; try rfl)) | (refine' hd_call rfl rfl rfl (enters Try.func27 (by kernel_rfl) (by kernel_rfl) _) (fun w => ct w) ?ha ?_; (case ha => simp only [Act.put, List.setIfInBounds_toArray, List.set_cons_zero, List.set_cons_succ]; try rfl)))
        refine hd_nil (hK _ _ ?_)
        clear hK K
        refine tl_gen (fun Q hQ => ?_)
        try simp only [List.nil_append, List.cons_append]
        repeat (first | (refine' tl_move rfl (.inl rfl) rfl ?hk ?ha ?_; (case hk => intro p hp; first | exact absurd hp List.not_mem_nil | (obtain rfl := List.mem_singleton.1 hp; repeat (first | exact List.Mem.head _ | apply List.Mem.tail))); (case ha => simp only [Act.put, List.setIfInBounds_toArray, List.set_cons_zero, List.set_cons_succ]; try rfl)) | (refine' tl_move rfl (.inr rfl) rfl ?hk ?ha ?_; (case hk => intro p hp; first | exact absurd hp List.not_mem_nil | (obtain rfl := List.mem_singleton.1 hp; repeat (first | exact List.Mem.head _ | apply List.Mem.tail))); (case ha => simp only [Act.put, List.setIfInBounds_toArray, List.set_cons_zero, List.set_cons_succ]; try rfl)) | (refine' tl_storeAll rfl rfl rfl ?hT rfl ?hs rfl rfl ?hn ?hk ?ha ?_; (case hT => exact inferInstance); (case hs => repeat (first | exact SetAt.head | apply SetAt.tail)); (case hn => first | rfl | (simp; done)); (case hk => intro p hp; first | exact absurd hp List.not_mem_nil | (obtain rfl := List.mem_singleton.1 hp; repeat (first | exact List.Mem.head _ | apply List.Mem.tail))); (case ha => simp only [Act.put, List.setIfInBounds_toArray, List.set_cons_zero, List.set_cons_succ]; try rfl)) | (refine' tl_storeCell rfl rfl rfl ?hT rfl rfl ?hs ?hn ?hl ?hk ?ha ?_; (case hT => exact inferInstance); (case hs => repeat (first | exact SetAt.head | apply SetAt.tail)); (case hn => first | exact of_decide_eq_true rfl | (show _ < 4; with_reducible assumption) | (simp; done) | (simp; omega)); (case hl => first | with_reducible assumption | (simp only [List.set_cons_zero, List.set_cons_succ]; done) | (simp only [List.set_cons_zero, List.set_cons_succ]; rfl) | (simp only [nl, List.set_cons_zero, List.set_cons_succ]; done) | (simp only [nl, List.set_cons_zero, List.set_cons_succ]; rfl) | rfl); (case hk => intro p hp; first | exact absurd hp List.not_mem_nil | (obtain rfl := List.mem_singleton.1 hp; repeat (first | exact List.Mem.head _ | apply List.Mem.tail))); (case ha => simp only [Act.put, List.setIfInBounds_toArray, List.set_cons_zero, List.set_cons_succ]; try rfl)) | (refine' tl_storeRow rfl rfl rfl ?hT rfl rfl ?hvn ?hs ?hn ?hl ?hk ?ha ?_; (case hT => exact inferInstance); (case hvn => first | rfl | (simp; done)); (case hs => repeat (first | exact SetAt.head | apply SetAt.tail)); (case hn => first | exact of_decide_eq_true rfl | (show _ < 4; with_reducible assumption) | (simp; done) | (simp; omega)); (case hl => first | with_reducible assumption | (simp only [List.set_cons_zero, List.set_cons_succ]; done) | (simp only [List.set_cons_zero, List.set_cons_succ]; rfl) | (simp only [nl, List.set_cons_zero, List.set_cons_succ]; done) | (simp only [nl, List.set_cons_zero, List.set_cons_succ]; rfl) | rfl); (case hk => intro p hp; first | exact absurd hp List.not_mem_nil | (obtain rfl := List.mem_singleton.1 hp; repeat (first | exact List.Mem.head _ | apply List.Mem.tail))); (case ha => simp only [Act.put, List.setIfInBounds_toArray, List.set_cons_zero, List.set_cons_succ]; try rfl)) | (refine' tl_pure rfl (fun w => ?hq) ?hk ?ha ?_; (case hq => go_simp; first | done | rfl); (case hk => intro p hp; first | exact absurd hp List.not_mem_nil | (obtain rfl := List.mem_singleton.1 hp; repeat (first | exact List.Mem.head _ | apply List.Mem.tail))); (case ha => simp only [Act.put, List.setIfInBounds_toArray, List.set_cons_zero, List.set_cons_succ]; try rfl)))
        refine tl_nil (fun w hR => hQ _ _ ?_)
        clear hQ Q
        go_wp2_with (first | (refine' wpList_boxRep hR rfl rfl rfl ?_; clear hR; intro blk w hR) | (refine' wpList_allocRep hR rfl rfl ?hT ?_; (case hT => exact inferInstance); clear hR; intro blk w hR) | (refine' wpList_loadAll hR rfl rfl rfl ?hT ?hm ?hn ?_; (case hT => exact inferInstance); (case hm => first | with_reducible assumption | repeat (first | exact List.Mem.head _ | apply List.Mem.tail)); (case hn => first | rfl | (simp; done))) | (refine' wpList_loadRow hR rfl rfl rfl ?hT ?hm ?hv ?hn ?_; (case hT => exact inferInstance); (case hm => first | with_reducible assumption | repeat (first | exact List.Mem.head _ | apply List.Mem.tail)); (case hv => first | with_reducible assumption | (simp only [List.drop_succ_cons, List.drop_zero, List.take_succ_cons, List.take_zero]; first | done | rfl)); (case hn => first | rfl | (simp; done))) | (refine' wpList_loadCell hR rfl rfl rfl ?hT ?hm ?hv ?_; (case hT => exact inferInstance); (case hm => first | with_reducible assumption | repeat (first | exact List.Mem.head _ | apply List.Mem.tail)); (case hv => first | rfl | with_reducible assumption)) | (refine' wpList_storeAll hR rfl rfl rfl ?hT rfl ?hs ?zone ?zvn ?hn ?_; (case hT => exact inferInstance); (case hs => repeat (first | exact SetAt.head | apply SetAt.tail)); (case zone => first | rfl | with_reducible assumption); (case zvn => first | rfl | (simp; done)); (case hn => first | rfl | (simp; done)); clear hR; intro w hR) | (refine' wpList_storeCell hR rfl rfl rfl ?hT rfl rfl ?hs ?hn ?hl ?_; (case hT => exact inferInstance); (case hs => repeat (first | exact SetAt.head | apply SetAt.tail)); (case hn => first | exact of_decide_eq_true rfl | (show _ < 4; with_reducible assumption) | (simp; done) | (simp; omega)); (case hl => first | with_reducible assumption | (simp only [List.set_cons_zero, List.set_cons_succ]; done) | (simp only [List.set_cons_zero, List.set_cons_succ]; rfl) | (simp only [nl, List.set_cons_zero, List.set_cons_succ]; done) | (simp only [nl, List.set_cons_zero, List.set_cons_succ]; rfl) | rfl); clear hR; intro w hR) | fail)
        refine hK.out ⟨c + n, r2, v'⟩ _ _ ⟨hle2, hf.out.1, hv1.out, hv2.out⟩ (by show xs.length - (c + n) < xs.length - c; omega) (agree_of rfl rfl rfl) ?_
        show Rep B0 w0 ((sb, sumC (m ++ xs.take (c + n)) r2) :: L) w
        unfold sumC
        rw [hf.out.2, hlen.out]
        exact hR
      · have t1 : ((kn : Int) == 64) = false := by simp; omega
        repeat (first | (obtain ⟨x, tm', e, ht'⟩ := agree_true ht; clear ht; subst e; have ht := ht'; clear ht') | (obtain ⟨tm', e, ht'⟩ := agree_false ht; clear ht; subst e; have ht := ht'; clear ht'))
        obtain rfl := agree_nil ht
        clear ht
        go_wp2_with (first | (refine' wpList_boxRep hR rfl rfl rfl ?_; clear hR; intro blk w hR) | (refine' wpList_allocRep hR rfl rfl ?hT ?_; (case hT => exact inferInstance); clear hR; intro blk w hR) | (refine' wpList_loadAll hR rfl rfl rfl ?hT ?hm ?hn ?_; (case hT => exact inferInstance); (case hm => first | with_reducible assumption | repeat (first | exact List.Mem.head _ | apply List.Mem.tail)); (case hn => first | rfl | (simp; done))) | (refine' wpList_loadRow hR rfl rfl rfl ?hT ?hm ?hv ?hn ?_; (case hT => exact inferInstance); (case hm => first | with_reducible assumption | repeat (first | exact List.Mem.head _ | apply List.Mem.tail)); (case hv => first | with_reducible assumption | (simp only [List.drop_succ_cons, List.drop_zero, List.take_succ_cons, List.take_zero]; first | done | rfl)); (case hn => first | rfl | (simp; done))) | (refine' wpList_loadCell hR rfl rfl rfl ?hT ?hm ?hv ?_; (case hT => exact inferInstance); (case hm => first | with_reducible assumption | repeat (first | exact List.Mem.head _ | apply List.Mem.tail)); (case hv => first | rfl | with_reducible assumption)) | (refine' wpList_storeAll hR rfl rfl rfl ?hT rfl ?hs ?zone ?zvn ?hn ?_; (case hT => exact inferInstance); (case hs => repeat (first | exact SetAt.head | apply SetAt.tail)); (case zone => first | rfl | with_reducible assumption); (case zvn => first | rfl | (simp; done)); (case hn => first | rfl | (simp; done)); clear hR; intro w hR) | (refine' wpList_storeCell hR rfl rfl rfl ?hT rfl rfl ?hs ?hn ?hl ?_; (case hT => exact inferInstance); (case hs => repeat (first | exact SetAt.head | apply SetAt.tail)); (case hn => first | exact of_decide_eq_true rfl | (show _ < 4; with_reducible assumption) | (simp; done) | (simp; omega)); (case hl => first | with_reducible assumption | (simp only [List.set_cons_zero, List.set_cons_succ]; done) | (simp only [List.set_cons_zero, List.set_cons_succ]; rfl) | (simp only [nl, List.set_cons_zero, List.set_cons_succ]; done) | (simp only [nl, List.set_cons_zero, List.set_cons_succ]; rfl) | rfl); clear hR; intro w hR) | (refine' wpList_copyRep hR rfl rfl Try.underlying24 sz_u8 rfl rfl cs hln.out SetAt.head hmn.out (hsrc w (hR.weaken (List.sublist_cons_self _ _))) hfit hone hcopy.out ?_; clear hR; intro w hR))
        have hf := hnext.out (by have := hkn.out; have := hn.out; omega)
        refine hK.out ⟨c + n, r2, v'⟩ _ _ ⟨hle2, hf.1, hv1.out, hv2.out⟩ (by show xs.length - (c + n) < xs.length - c; omega) (agree_of rfl rfl rfl) ?_
        show Rep B0 w0 ((sb, sumC (m ++ xs.take (c + n)) r2) :: L) w
        unfold sumC
        rw [hf.2, hlen.out]
        exact hR
end Go.Proofs.Ytllmpiamcghboaa
