/- A sum's cells; the contract of (*Sum).writes. -/
import Derived.Laws.CopyOwn
import Derived.Test.YtgfoeongjhkdmaaGreatRShaTake
import Derived.Maps.AppendAt
import Derived.Laws.MakeOwn
import Derived.Test.YtgfoeongjhkdmaaGreatRA
set_option linter.unusedVariables false
set_option linter.unusedSimpArgs false
namespace Go.Proofs.YtgfoeongjhkdmaaGreat
open Go.RowKit
attribute [local irreducible] Calls
noncomputable def sumL (h : S8) (r : Nat → Nat) (n : Nat) : List Value := opq (.int .i64 1 :: (s8L h ++ (u8s 64 r ++ [.int .u64 (n : Int)])))
theorem xDd (h : S8) (r : Nat → Nat) (n : Nat) : sumL h r n = .int .i64 1 :: (s8L h ++ (u8s 64 r ++ [.int .u64 (n : Int)])) := by unfold sumL; rw [xCe]
@[simp] theorem sumL_length (h : S8) (r : Nat → Nat) (n : Nat) : (sumL h r n).length = 74 := by
  rw [xDd]
  simp [xCb]
theorem sumL_made (h : S8) (r : Nat → Nat) (n : Nat) : (sumL h r n)[0]? = some (.int .i64 1) := by rw [xDd]; rfl
theorem sumL_many (h : S8) (r : Nat → Nat) (n : Nat) : (sumL h r n)[73]? = some (.int .u64 (n : Int)) := by
  rw [xDd]
  rw [show 73 = 72 + 1 from rfl, List.getElem?_cons_succ, List.getElem?_append_right (by rw [xCb]; omega), List.getElem?_append_right (by simp [xCb])]
  simp [xCb]
theorem sumL_now (h : S8) (r : Nat → Nat) (n : Nat) : ((sumL h r n).drop 1).take 8 = s8L h := by
  rw [xDd, List.drop_succ_cons, List.drop_zero, List.take_append_of_le_length (by rw [xCb]; omega), List.take_of_length_le (by rw [xCb]; omega)]
theorem sumL_rest (h : S8) (r : Nat → Nat) (n : Nat) : ((sumL h r n).drop 9).take 64 = u8s 64 r := by
  rw [xDd, show 9 = 8 + 1 from rfl, List.drop_succ_cons, List.drop_append_of_le_length (by rw [xCb]; omega), List.drop_of_length_le (by rw [xCb]; omega), List.nil_append, List.take_append_of_le_length (by simp), List.take_of_length_le (by simp)]
theorem sumL_setMany (h : S8) (r : Nat → Nat) (n n' : Nat) : (sumL h r n).set 73 (.int .u64 (n' : Int)) = sumL h r n' := by
  rw [xDd, xDd, show 73 = 72 + 1 from rfl, List.set_cons_succ, List.set_append_right _ _ (by rw [xCb]; omega), List.set_append_right _ _ (by simp [xCb])]
  simp [xCb]
theorem sumL_setNow (h h' : S8) (r : Nat → Nat) (n : Nat) : (sumL h r n).take 1 ++ s8L h' ++ (sumL h r n).drop (1 + 8) = sumL h' r n := by
  rw [xDd, xDd, show 1 + 8 = 8 + 1 from rfl, List.drop_succ_cons, List.drop_append_of_le_length (by rw [xCb]; omega), List.drop_of_length_le (by rw [xCb]; omega)]
  simp
def laid (r : Nat → Nat) (at' n : Nat) (x : Nat → Nat) : Nat → Nat := fun j => if at' ≤ j ∧ j < at' + n then x (j - at') else r j
theorem sumL_copy (h : S8) (r x : Nat → Nat) (m at' n : Nat) (hn : at' + n ≤ 64) : (sumL h r m).take (9 + at') ++ u8s n x ++ (sumL h r m).drop (9 + at' + n) = sumL h (laid r at' n x) m := by
  have e : ∀ r : Nat → Nat, sumL h r m = (.int .i64 1 :: s8L h) ++ (u8s 64 r ++ [.int .u64 (m : Int)]) := fun r => by rw [xDd]; rfl
  have l9 : (Value.int .i64 1 :: s8L h).length = 9 := rfl
  have key : (u8s 64 r).take at' ++ u8s n x ++ (u8s 64 r).drop (at' + n) = u8s 64 (laid r at' n x) := by
    refine List.ext_getElem? fun k => ?_
    by_cases hk : k < 64
    · rw [u8s_at hk]
      by_cases h1 : k < at'
      · rw [List.append_assoc, List.getElem?_append_left (by simp; omega), List.getElem?_take, if_pos h1, u8s_at hk]
        unfold laid
        rw [if_neg (by omega)]
      · by_cases h2 : k < at' + n
        · rw [List.append_assoc, List.getElem?_append_right (by simp; omega), List.getElem?_append_left (by simp; omega)]
          have : k - ((u8s 64 r).take at').length = k - at' := by simp; omega
          rw [this, u8s_at (by omega)]
          unfold laid
          rw [if_pos (by omega)]
        · rw [List.getElem?_append_right (by simp; omega), List.getElem?_drop]
          have : at' + n + (k - ((u8s 64 r).take at' ++ u8s n x).length) = k := by simp; omega
          rw [this, u8s_at hk]
          unfold laid
          rw [if_neg (by omega)]
    · rw [List.getElem?_eq_none (by simp; omega), List.getElem?_eq_none (by simp; omega)]
  rw [e, e, ← key, List.take_append, List.take_of_length_le (by rw [l9]; omega), l9, show 9 + at' - 9 = at' by omega, List.take_append_of_le_length (by simp; omega), List.drop_append, l9,
    List.drop_of_length_le (by rw [l9]; omega), List.nil_append, show 9 + at' + n - 9 = at' + n by omega, List.drop_append_of_le_length (by simp; omega)]
  simp only [List.append_assoc]
section
variable {P : Program} {ops : Array Oper} {rest : List Oper} {o : Oper} {a : Act} {w w0 : World} {Q : Exit → Act → World → Prop} {B0 : Nat} {L L' : List (Nat × Obj)}
theorem wpList_copyRep (hR : Rep B0 w0 L w) (hgd : o.guard = none) {d s : Operand} {dT sT : TypeId} (ho : o.op = .call { callee := .builtin .copy, args := #[d, s], argTypes := #[dT, sT] }) {elem : TypeId} (hu : P.underlying dT = some (.slice elem)) (hsz : (P.info? elem).map (·.size) = some 1)
    {g off dLen dCap sLen sCap : Nat} {ad : Addr} (hd : a.eval d = .slice (some ⟨g, off, none⟩) dLen dCap) (hs : a.eval s = .slice (some ad) sLen sCap) {l l' : List Value} {t : TypeId} (cs : List Value) {n : Nat} (hlen : cs.length = n) (hset : xAx L g (.cells l.toArray t) (.cells l'.toArray t) L') (hn : n = Nat.min sLen dLen)
    (hsrc : ∀ j v, cs[j]? = some v → w.cell? (ad.add j) = some v) (hfit : off + n ≤ l.length) (h1 : ∀ v ∈ cs, v.oneCell' = true) (hl : l.take off ++ cs ++ l.drop (off + n) = l')
    (h : ∀ w', Rep B0 w0 L' w' → wpList P ops Q rest (a.put o.dst (.int .i64 (n : Int))) w') : wpList P ops Q (o :: rest) a w := by
  subst hl
  subst hlen
  refine wpList_plain hgd fun K hK => ?_
  have hg := (hR.own _ hset.spec.1).2
  have hrun := run_copy_row (P := P) w dT sT o.type elem g off dLen dCap ad sLen sCap l.toArray t cs hu hsz hg hn hsrc (by simpa using hfit) h1
  unfold Oper.wp
  simp [execOp, ho, resolve, invoke, builtin, hd, hs, hrun, Result.andThen]
  refine hK _ _ (h _ (hR.put hset ?_ (fun k hk => setRow_other w g k _ hk) rfl rfl rfl (by simp [World.setRow])))
  have := setRow_heap w g l.toArray (l.take off ++ (cs ++ l.drop (off + cs.length))).toArray t (0, 0) hg
  simpa using this
end
theorem cut_slice (bb bo q cp n : Nat) (hn : n ≤ q) (hq : q ≤ cp) (hc : cp ≤ maxLen) (w : World) :
    (Instr.sliceAt 49 (.slice (some ⟨bb, bo, none⟩) q cp) (some (.int .i64 (n : Int))) none none).run Tryz.prog w = .ok (.slice (some (if cp = n then ⟨bb, bo, none⟩ else ⟨bb, bo + n, none⟩)) (q - n) (cp - n)) w := by
  unfold maxLen at hc
  have h0 : 0 ≤ (n : Int) := by omega
  have h1 : (n : Int) ≤ (q : Int) := by omega
  by_cases h : cp = n
  · subst h
    obtain rfl : q = cp := by omega
    go_simp
  · rw [if_neg h]
    go_simp
theorem sz_u8 : (Tryz.prog.info? 5).map (·.size) = some 1 := by kernel_rfl
theorem u8s_mem (n : Nat) (x : Nat → Nat) : ∀ v ∈ u8s n x, v.oneCell' = true := fun v hv => by
  rw [xCu] at hv
  obtain ⟨j, _, rfl⟩ := List.mem_map.1 hv
  rfl
end Go.Proofs.YtgfoeongjhkdmaaGreat
namespace Go.Proofs.YtgfoeongjhkdmaaGreat
open Go.RowKit
attribute [local irreducible] Calls
theorem xCc {α : Type} {P : Program} {c : Code} {Q : Exit → Act → World → Prop} {l : List Value} {d : List Deferred} {w w0 : World} {B0 : Nat} (mask : List Bool) (upd : α → List Value → List Value) (L : α → List (Nat × Obj)) (μ : α → Nat) (Ok : α → Prop) (x0 : α)
    (h0 : agree mask (upd x0 l) l) (hO : Ok x0) (hR : Rep B0 w0 (L x0) w)
    (hs : ∀ x tm w, Ok x → agree mask (upd x l) tm → Rep B0 w0 (L x) w → ∀ K : Act → World → Prop, Held (∀ y tm' w', Ok y → μ y < μ x → agree mask (upd y l) tm' → Rep B0 w0 (L y) w' → K ⟨tm'.toArray, d⟩ w') → c.wp P (Exit.then K Q) ⟨tm.toArray, d⟩ w) : (Code.loop c).wp P Q ⟨l.toArray, d⟩ w := by
  have key : ∀ n x, μ x ≤ n → Ok x → ∀ tm w, agree mask (upd x l) tm → Rep B0 w0 (L x) w → Code.rounds P c Q (n + 1) ⟨tm.toArray, d⟩ w := by
    intro n
    induction n with
    | zero => intro x hx hO tm w h1 h2; exact hs x tm w hO h1 h2 _ ⟨fun y tm' w' _ hy _ _ => by omega⟩
    | succ n ih =>
      intro x hx hO tm w h1 h2
      exact hs x tm w hO h1 h2 _ ⟨fun y tm' w' hO' hy h1' h2' => ih y (by omega) hO' tm' w' h1' h2'⟩
  exact wp_loop_rounds (μ x0 + 1) (key (μ x0) x0 (Nat.le_refl _) hO l w h0 hR)
theorem xDh (l : List Nat) (c j : Nat) (h : j < c) : (l.take c).getD j 0 = l.getD j 0 := by
  rw [List.getD_eq_getElem?_getD, List.getD_eq_getElem?_getD, List.getElem?_take, if_pos h]
theorem xDc (m l : List Nat) (j : Nat) : (m ++ l).getD (m.length + j) 0 = l.getD j 0 := by
  rw [List.getD_eq_getElem?_getD, List.getD_eq_getElem?_getD, List.getElem?_append_right (by omega), Nat.add_sub_cancel_left]
theorem xDi (m l : List Nat) {j : Nat} (h : j < m.length) : (m ++ l).getD j 0 = m.getD j 0 := by
  rw [List.getD_eq_getElem?_getD, List.getD_eq_getElem?_getD, List.getElem?_append_left h]
structure xDm (m : List Nat) (r : Nat → Nat) : Prop where
  byte : ∀ j, r j < 256
  is : ∀ j, j < m.length % 64 → r j = m.getD (64 * (m.length / 64) + j) 0
theorem tail_more {m : List Nat} {r : Nat → Nat} (h : xDm m r) {k n : Nat} {x : Nat → Nat} {l : List Nat} (hk : m.length % 64 = k) (hl : l.length = n) (hn : k + n ≤ 64) (hx : ∀ j, j < n → x j = l.getD j 0) (hb : ∀ j, x j < 256) :
    (∀ j, laid r k n x j < 256) ∧ (∀ j, j < k + n → laid r k n x j = (m ++ l).getD (64 * (m.length / 64) + j) 0) := by
  refine ⟨fun j => ?_, fun j hj => ?_⟩
  · unfold laid; split
    · exact hb _
    · exact h.byte j
  · unfold laid
    by_cases h1 : k ≤ j
    · rw [if_pos ⟨h1, hj⟩, hx _ (by omega), show 64 * (m.length / 64) + j = m.length + (j - k) by omega, xDc]
    · rw [if_neg (by omega), h.is j (by omega), xDi _ _ (by omega)]
theorem tail_next {m : List Nat} {r : Nat → Nat} (h : xDm m r) {k n : Nat} {x : Nat → Nat} {l : List Nat} (hk : m.length % 64 = k) (hl : l.length = n) (hn : k + n < 64) (hx : ∀ j, j < n → x j = l.getD j 0) (hb : ∀ j, x j < 256) :
    xDm (m ++ l) (laid r k n x) ∧ xBv (m ++ l) ((m ++ l).length / 64) = xBv m (m.length / 64) := by
  obtain ⟨h1, h2⟩ := tail_more h hk hl (by omega) hx hb
  have e : (m ++ l).length / 64 = m.length / 64 := by rw [List.length_append, hl]; omega
  refine ⟨⟨h1, fun j hj => ?_⟩, ?_⟩
  · rw [e]
    exact h2 j (by rw [List.length_append, hl] at hj; omega)
  · rw [e]
    exact blocksN_append _ _ _ (by omega)
theorem tail_full {m : List Nat} {r : Nat → Nat} (h : xDm m r) {k n : Nat} {x : Nat → Nat} {l : List Nat} (hk : m.length % 64 = k) (hl : l.length = n) (hn : k + n = 64) (hx : ∀ j, j < n → x j = l.getD j 0) (hb : ∀ j, x j < 256) :
    xDm (m ++ l) (laid r k n x) ∧ xBv (m ++ l) ((m ++ l).length / 64) = takeN (xBv m (m.length / 64)) (laid r k n x) := by
  obtain ⟨h1, h2⟩ := tail_more h hk hl (by omega) hx hb
  have e : (m ++ l).length / 64 = m.length / 64 + 1 := by rw [List.length_append, hl]; omega
  refine ⟨⟨h1, fun j hj => ?_⟩, ?_⟩
  · rw [List.length_append, hl] at hj
    omega
  · rw [e]
    show takeN (xBv (m ++ l) (m.length / 64)) _ = _
    rw [blocksN_append _ _ _ (by omega)]
    exact takeN_congr _ fun j hj => (h2 j (by omega)).symm
theorem drop_take_append (m xs : List Nat) (c n : Nat) : (m ++ xs.take c) ++ (xs.drop c).take n = m ++ xs.take (c + n) := by
  rw [List.append_assoc, ← List.take_add]
noncomputable abbrev sumC (m : List Nat) (r : Nat → Nat) : Obj := .cells (sumL (xBv m (m.length / 64)) r m.length).toArray 116
structure WSt where
  c : Nat
  r : Nat → Nat
  v : Value
structure WOk (m xs : List Nat) (bb off cap : Nat) (x : WSt) : Prop where
  le : x.c ≤ xs.length
  tail : xDm (m ++ xs.take x.c) x.r
  more : x.c < xs.length → x.v = .slice (some ⟨bb, off + x.c, none⟩) (xs.length - x.c) (cap - x.c)
  over : x.c = xs.length → ∃ a cp, x.v = .slice a 0 cp
theorem cell_addr {w : World} {b off j : Nat} {u : Value} (h : w.cell? ⟨b, off + j, none⟩ = some u) : w.cell? ((⟨b, off, none⟩ : Addr).add j) = some u := by
  have e : ((⟨b, off, none⟩ : Addr).add j) = ⟨b, off + j, none⟩ := by
    unfold Addr.add; split <;> simp_all
  rw [e]; exact h
set_option maxRecDepth 100000 in
set_option maxHeartbeats 4000000 in
theorem writes_some {B0 : Nat} {w0 w : World} {L : List (Nat × Obj)} (sb : Nat) (m xs : List Nat) (r : Nat → Nat) (bb off cap : Nat) (hb : ∀ j, xs.getD j 0 < 256) (hr : xDm m r) (hbig : m.length + xs.length < 1000000000000) (hcap : xs.length ≤ cap) (hcap2 : cap ≤ maxLen)
    (hR : Rep B0 w0 ((sb, sumC m r) :: L) w) (hS : ∀ w, Rep B0 w0 L w → ∀ j, j < xs.length → w.cell? ⟨bb, off + j, none⟩ = some (.int .u8 (xs.getD j 0 : Nat))) :
    Calls Tryz.prog 105 #[.pointer (some ⟨sb, 0, none⟩), .slice (some ⟨bb, off, none⟩) xs.length cap] w fun e w' => e = .returned (.tuple #[]) ∧ ∃ r', xDm (m ++ xs) r' ∧ Rep B0 w0 ((sb, sumC (m ++ xs) r') :: L) w' := by
  go_enter Tryz.func105, Tryz.ntmps105
  go_wp2_with (first | (refine' xAb hR rfl rfl rfl ?_; clear hR; intro blk w hR) | (refine' xAa hR rfl rfl inferInstance ?_; clear hR; intro blk w hR) | (refine' aAq hR rfl rfl rfl inferInstance ?_) | (refine' aBq hR rfl rfl rfl inferInstance ?_) | (refine' aCq hR rfl rfl rfl inferInstance ?_) | (refine' aDq hR rfl rfl rfl inferInstance rfl ?_; clear hR; intro w hR) | (refine' aEq hR rfl rfl rfl inferInstance rfl rfl ?_; clear hR; intro w hR) | fail)
  refine' xCc (false :: false :: false :: false :: true :: true :: true :: true :: true :: true :: true :: true :: true :: true :: true :: true :: true :: true :: true :: true :: true :: true :: true :: true :: true :: true :: true :: true :: true :: true :: true :: true :: true :: true :: true :: true :: true :: true :: true :: true :: true :: true :: true :: true :: true :: true :: true :: true :: true :: true :: []) (fun (x : WSt) l => l.set 1 x.v) (fun x => (sb, sumC (m ++ xs.take x.c) x.r) :: L) (fun x => xs.length - x.c) (WOk m xs bb off cap) ⟨0, r, .slice (some ⟨bb, off, none⟩) xs.length cap⟩ ?h0 ?hO ?hR ?hs
  case h0 => exact xAu rfl rfl rfl
  case hO => exact ⟨Nat.zero_le _, by simpa using hr, fun _ => rfl, fun h => ⟨_, _, by rw [← h]⟩⟩
  case hR => simpa using hR
  case hs =>
    clear hR
    intro x tm w hO ht hR K hK
    obtain ⟨c, r1, v⟩ := x
    obtain ⟨hle, htl, hmore, hover⟩ := hO
    simp only at hle htl hmore hover ht hR
    by_cases hc : c = xs.length
    · obtain ⟨a, cp, rfl⟩ := hover hc
      clear hmore hover hK
      repeat (first | (obtain ⟨x, tm', e, ht'⟩ := xAf ht; clear ht; subst e; have ht := ht'; clear ht') | (obtain ⟨tm', e, ht'⟩ := xAc ht; clear ht; subst e; have ht := ht'; clear ht'))
      obtain rfl := xAk ht
      clear ht
      go_wp2_with (first | (refine' xAb hR rfl rfl rfl ?_; clear hR; intro blk w hR) | (refine' xAa hR rfl rfl inferInstance ?_; clear hR; intro blk w hR) | (refine' aAq hR rfl rfl rfl inferInstance ?_) | (refine' aBq hR rfl rfl rfl inferInstance ?_) | (refine' aCq hR rfl rfl rfl inferInstance ?_) | (refine' aDq hR rfl rfl rfl inferInstance rfl ?_; clear hR; intro w hR) | (refine' aEq hR rfl rfl rfl inferInstance rfl rfl ?_; clear hR; intro w hR) | fail)
      go_end0
      subst hc
      rw [List.take_length] at htl hR
      exact ⟨rfl, r1, htl, hR⟩
    · obtain rfl := hmore (by omega)
      clear hover hmore
      obtain ⟨q, hq⟩ : ∃ q, xs.length - c = q := ⟨_, rfl⟩
      obtain ⟨cp, hcp⟩ : ∃ q, cap - c = q := ⟨_, rfl⟩
      obtain ⟨bo, hbo⟩ : ∃ q, off + c = q := ⟨_, rfl⟩
      obtain ⟨N, hN⟩ : ∃ N, (m ++ xs.take c).length = N := ⟨_, rfl⟩
      have hN' : N = m.length + c := by rw [← hN]; simp; omega
      obtain ⟨k, hk⟩ : ∃ k, N % 64 = k := ⟨_, rfl⟩
      rw [hq, hcp, hbo] at ht
      have s0 := sumL_many (xBv (m ++ xs.take c) (N / 64)) r1 N
      unfold sumC at hR
      rw [hN] at hR
      have g0 : (0 : Int) < (q : Int) := by omega
      have e1 : (N : Int).tmod 64 = (k : Int) := by rw [Int.tmod_eq_emod_of_nonneg (by omega)]; omega
      have e2 : (N : Int) % 64 = (k : Int) := by omega
      have e3 : IntKind.i64.wrap (k : Int) = (k : Int) := by rw [IntKind.wrap_i64]; omega
      have g1 : 0 ≤ (k : Int) := by omega
      have g2 : (k : Int) ≤ 64 := by omega
      have g3 : (k : Int) < 64 := by omega
      obtain ⟨n, hn⟩ : ∃ n, Nat.min q (64 - k) = n := ⟨_, rfl⟩
      have hmin : Nat.min q (64 - k) = min q (64 - k) := rfl
      rw [hmin] at hn
      clear hmin
      obtain ⟨N', hN2⟩ : ∃ x, N + n = x := ⟨_, rfl⟩
      obtain ⟨kn, hkn⟩ : ∃ x, k + n = x := ⟨_, rfl⟩
      have f1 : IntKind.u64.wrap (n : Int) = (n : Int) := by rw [IntKind.wrap_u64]; omega
      have f2 : IntKind.u64.wrap ((N : Int) + (n : Int)) = (N' : Int) := by rw [IntKind.wrap_u64]; omega
      have f3 : IntKind.i64.wrap ((k : Int) + (n : Int)) = (kn : Int) := by rw [IntKind.wrap_i64]; omega
      have b0 : 0 ≤ (n : Int) := by omega
      have hcut := cut_slice bb bo q cp n (by omega) (by omega) (by omega)
      have ev : ∃ v' : Value, (∀ w, (Instr.sliceAt 49 (.slice (some ⟨bb, bo, none⟩) q cp) (some (.int .i64 (n : Int))) none none).run Tryz.prog w = .ok v' w) ∧ (c + n < xs.length → v' = .slice (some ⟨bb, off + (c + n), none⟩) (xs.length - (c + n)) (cap - (c + n))) ∧ (c + n = xs.length → ∃ a cp, v' = .slice a 0 cp) := by
        refine ⟨_, hcut, fun h => ?_, fun h => ⟨some (if cp = n then ⟨bb, bo, none⟩ else ⟨bb, bo + n, none⟩), cp - n, ?_⟩⟩
        · rw [if_neg (by omega), show bo + n = off + (c + n) by omega, show q - n = xs.length - (c + n) by omega, show cp - n = cap - (c + n) by omega]
        · rw [show q - n = 0 by omega]
      obtain ⟨v', hv, hv1, hv2⟩ := ev
      clear hcut
      have hx : ∀ j, j < n → (fun j => xs.getD (c + j) 0) j = ((xs.drop c).take n).getD j 0 := fun j hj => by
        show xs.getD (c + j) 0 = _
        rw [xDh _ _ _ hj, List.getD_eq_getElem?_getD, List.getD_eq_getElem?_getD, List.getElem?_drop]
      have hl : ((xs.drop c).take n).length = n := by simp; omega
      have hb' : ∀ j, (fun j => xs.getD (c + j) 0) j < 256 := fun j => hb _
      have hk' : (m ++ xs.take c).length % 64 = k := by rw [hN]; exact hk
      have hcopy := sumL_copy (xBv (m ++ xs.take c) (N / 64)) r1 (fun j => xs.getD (c + j) 0) N k n (by omega)
      have hsrc : ∀ w, Rep B0 w0 L w → ∀ j v, (u8s n (fun j => xs.getD (c + j) 0))[j]? = some v → w.cell? ((⟨bb, bo, none⟩ : Addr).add j) = some v := fun w hw j v hj => by
        have hjn : j < n := by
          have := (List.getElem?_eq_some_iff.1 hj).1
          simpa using this
        rw [u8s_at hjn] at hj
        rw [← Option.some.inj hj]
        have := hS w hw (c + j) (by omega)
        rw [show off + (c + j) = bo + j by omega] at this
        exact cell_addr this
      have hfull : kn = 64 → xDm (m ++ xs.take (c + n)) (laid r1 k n fun j => xs.getD (c + j) 0) ∧ xBv (m ++ xs.take (c + n)) ((m ++ xs.take (c + n)).length / 64) = takeN (xBv (m ++ xs.take c) (N / 64)) (laid r1 k n fun j => xs.getD (c + j) 0) := fun h => by
        have := tail_full htl hk' hl (by omega) hx hb'
        rw [drop_take_append, hN] at this
        exact this
      have hnext : kn < 64 → xDm (m ++ xs.take (c + n)) (laid r1 k n fun j => xs.getD (c + j) 0) ∧ xBv (m ++ xs.take (c + n)) ((m ++ xs.take (c + n)).length / 64) = xBv (m ++ xs.take c) (N / 64) := fun h => by
        have := tail_next htl hk' hl (by omega) hx hb'
        rw [drop_take_append, hN] at this
        exact this
      have hlen : (m ++ xs.take (c + n)).length = N' := by simp; omega
      have hok := blocksN_ok (m ++ xs.take c) (N / 64)
      have hone := u8s_mem n fun j => xs.getD (c + j) 0
      have hln := xCr n fun j => xs.getD (c + j) 0
      have s9 : ∀ r h, (sumL h r N).set 73 (.int .u64 (N' : Int)) = sumL h r N' := fun r h => sumL_setMany h r N N'
      have hfit : 9 + k + n ≤ (sumL (xBv (m ++ xs.take c) (N / 64)) r1 N).length := by rw [sumL_length]; omega
      generalize laid r1 k n (fun j => xs.getD (c + j) 0) = r2 at *
      generalize u8s n (fun j => xs.getD (c + j) 0) = cs at *
      generalize xBv (m ++ xs.take c) (N / 64) = h1 at *
      have s1 := sumL_many h1 r2 N
      have s10 := s9 r2 h1
      have hmn : n = Nat.min q (64 - k) := hn.symm
      have hle2 : c + n ≤ xs.length := by omega
      have hpos : 0 < n := by omega
      clear htl hx hl hb' hk' s9
      replace hN' := Held.mk hN'
      replace hk := Held.mk hk
      replace hq := Held.mk hq
      replace hcp := Held.mk hcp
      replace hbo := Held.mk hbo
      replace hn := Held.mk hn
      replace hN := Held.mk hN
      replace hN2 := Held.mk hN2
      replace hkn := Held.mk hkn
      replace hlen := Held.mk hlen
      replace hmn := Held.mk hmn
      replace hln := Held.mk hln
      replace hcopy := Held.mk hcopy
      replace hv1 := Held.mk hv1
      replace hv2 := Held.mk hv2
      replace hfull := Held.mk hfull
      replace hnext := Held.mk hnext
      by_cases h64 : kn = 64
      · have t1 : ((kn : Int) == 64) = true := by simp; omega
        repeat (first | (obtain ⟨x, tm', e, ht'⟩ := xAf ht; clear ht; subst e; have ht := ht'; clear ht') | (obtain ⟨tm', e, ht'⟩ := xAc ht; clear ht; subst e; have ht := ht'; clear ht'))
        obtain rfl := xAk ht
        clear ht
        go_wp2_with (first | (refine' xAb hR rfl rfl rfl ?_; clear hR; intro blk w hR) | (refine' xAa hR rfl rfl inferInstance ?_; clear hR; intro blk w hR) | (refine' aAq hR rfl rfl rfl inferInstance ?_) | (refine' aBq hR rfl rfl rfl inferInstance ?_) | (refine' aCq hR rfl rfl rfl inferInstance ?_) | (refine' aDq hR rfl rfl rfl inferInstance rfl ?_; clear hR; intro w hR) | (refine' aEq hR rfl rfl rfl inferInstance rfl rfl ?_; clear hR; intro w hR) | (refine' wpList_copyRep hR rfl rfl Tryz.underlying49 sz_u8 rfl rfl cs hln.out xAx.head hmn.out (hsrc w (hR.weaken (List.sublist_cons_self _ _))) hfit hone hcopy.out ?_; clear hR; intro w hR))
        have ct := fun w => take_any h1 r2 hok (hfull.out h64).1.byte w
        have u1 := sumL_now h1 r2 N'
        have u2 := sumL_rest h1 r2 N'
        have u3 := sumL_setNow h1 (takeN h1 r2) r2 N'
        have hf := hfull.out h64
        clear hfull hnext h64
        generalize takeN h1 r2 = h2 at *
        replace hf := Held.mk hf
        refine xAg hR [0, 0, 0, 0, 0, 0, 0, 0, 0, 0, 0, 0, 2] [] xCt (by kernel_rfl) rfl rfl (fun K hK => ?_)
        clear hR
        repeat ((first | (refine xBj ?_) | (refine' xAs (by decide) rfl (.inl rfl) rfl ?ha ?_) | (refine' xAs (by decide) rfl (.inr rfl) rfl ?ha ?_) | (refine' xAr rfl rfl rfl inferInstance ?hm ?hn ?ha ?_; (case hm => first | with_reducible assumption | repeat (first | exact .head _ | apply mT)); (case hn => first | rfl | simp)) | (refine' xAm rfl rfl rfl inferInstance ?hm ?hv ?hn ?ha ?_; (case hm => first | with_reducible assumption | repeat (first | exact .head _ | apply mT)); (case hv => first | with_reducible assumption | (simp only [kC, kD, kE, kF]; try rfl)); (case hn => first | rfl | simp)) | (refine' xAi rfl rfl rfl inferInstance ?hm ?hv ?ha ?_; (case hm => first | with_reducible assumption | repeat (first | exact .head _ | apply mT)); (case hv => first | rfl | with_reducible assumption)) | (refine' xAn rfl rfl rfl inferInstance ?hm ?hv ?hn ?ha ?_; (case hm => first | with_reducible assumption | repeat (first | exact .head _ | apply mT)); (case hv => first | with_reducible assumption | (simp only [kC, kD, kE, kF]; try rfl)); (case hn => first | rfl | simp)) | (refine' xAj rfl rfl rfl inferInstance ?hm ?hv ?ha ?_; (case hm => first | with_reducible assumption | repeat (first | exact .head _ | apply mT)); (case hv => first | rfl | with_reducible assumption)) | ((first | refine' xAd (by decide) rfl rfl rfl rfl (fun w => ?hq) ?ha ?_ | refine' xBf (by decide) rfl rfl rfl rfl (fun w => ?hq) ?ha ?_ | refine' xAp (by decide) rfl rfl rfl (fun w => ?hq) ?ha ?_ | refine' xAe (by decide) rfl rfl rfl (fun w => ?hq) ?ha ?_ | refine' xAo (by decide) rfl rfl rfl (fun w => ?hq) ?ha ?_ | refine' xBd (by decide) rfl rfl rfl rfl (fun w => ?hq) ?ha ?_ | refine' xBc (by decide) rfl rfl rfl rfl rfl rfl (fun w => ?hq) ?ha ?_ | refine' xBb (by decide) rfl rfl (fun w => ?hq) ?ha ?_ | refine' xAq (by decide) rfl rfl rfl (fun w => ?hq) ?ha ?_ | refine' xBe (by decide) rfl rfl rfl (fun w => ?hq) ?ha ?_); (case hq => go_simp; try rfl)) | (refine' xAh (by decide) rfl rfl rfl ?ha ?_) | (refine' xBl (by decide) rfl rfl rfl rfl ?ha ?_) | (refine' xBk (by decide) rfl ?ha ?_) | (refine' xBg rfl rfl rfl (xBi Tryz.func112 (by kernel_rfl) (by kernel_rfl) _) (fun w => ct w) ?ha ?_)); try (case ha => simp only [kP, kQ, kA, kB]; try rfl))
        refine xBs (hK _ _ ?_)
        clear hK K
        refine xBx (fun Q hQ => ?_)
        try simp only [List.nil_append, List.cons_append]
        repeat ((first | refine' xBa rfl (.inl rfl) rfl ?hk ?ha ?_ | refine' xBa rfl (.inr rfl) rfl ?hk ?ha ?_ | (refine' xAv rfl rfl rfl inferInstance rfl ?hs rfl rfl ?hn ?hk ?ha ?_; (case hs => repeat (first | exact xAx.head | apply xAx.tail)); (case hn => first | rfl | simp)) | (refine' xAl rfl rfl rfl inferInstance rfl rfl ?hs ?hn ?hl ?hk ?ha ?_; (case hs => repeat (first | exact xAx.head | apply xAx.tail)); (case hn => first | exact oD rfl | (show _ < 4; with_reducible assumption) | (simp; try omega)); (case hl => first | with_reducible assumption | (simp only [nl, kA, kB]; first | done | rfl) | rfl)) | (refine' xAw rfl rfl rfl inferInstance rfl rfl ?hvn ?hs ?hn ?hl ?hk ?ha ?_; (case hvn => first | rfl | simp); (case hs => repeat (first | exact xAx.head | apply xAx.tail)); (case hn => first | exact oD rfl | (show _ < 4; with_reducible assumption) | (simp; try omega)); (case hl => first | with_reducible assumption | (simp only [nl, kA, kB]; first | done | rfl) | rfl)) | (refine' xBm rfl (fun w => ?hq) ?hk ?ha ?_; (case hq => go_simp; try rfl))); (case hk => intro p hp; first | exact absurd hp List.not_mem_nil | (obtain rfl := List.mem_singleton.1 hp; repeat (first | exact List.Mem.head _ | apply mT))); (case ha => simp only [kP, kQ, kA, kB]; try rfl))
        refine xBw (fun w hR => hQ _ _ ?_)
        clear hQ Q
        go_wp2_with (first | (refine' xAb hR rfl rfl rfl ?_; clear hR; intro blk w hR) | (refine' xAa hR rfl rfl inferInstance ?_; clear hR; intro blk w hR) | (refine' aAq hR rfl rfl rfl inferInstance ?_) | (refine' aBq hR rfl rfl rfl inferInstance ?_) | (refine' aCq hR rfl rfl rfl inferInstance ?_) | (refine' aDq hR rfl rfl rfl inferInstance rfl ?_; clear hR; intro w hR) | (refine' aEq hR rfl rfl rfl inferInstance rfl rfl ?_; clear hR; intro w hR) | fail)
        refine hK.out ⟨c + n, r2, v'⟩ _ _ ⟨hle2, hf.out.1, hv1.out, hv2.out⟩ (by show xs.length - (c + n) < xs.length - c; omega) (xAu rfl rfl rfl) ?_
        show Rep B0 w0 ((sb, sumC (m ++ xs.take (c + n)) r2) :: L) w
        unfold sumC
        rw [hf.out.2, hlen.out]
        exact hR
      · have t1 : ((kn : Int) == 64) = false := by simp; omega
        repeat (first | (obtain ⟨x, tm', e, ht'⟩ := xAf ht; clear ht; subst e; have ht := ht'; clear ht') | (obtain ⟨tm', e, ht'⟩ := xAc ht; clear ht; subst e; have ht := ht'; clear ht'))
        obtain rfl := xAk ht
        clear ht
        go_wp2_with (first | (refine' xAb hR rfl rfl rfl ?_; clear hR; intro blk w hR) | (refine' xAa hR rfl rfl inferInstance ?_; clear hR; intro blk w hR) | (refine' aAq hR rfl rfl rfl inferInstance ?_) | (refine' aBq hR rfl rfl rfl inferInstance ?_) | (refine' aCq hR rfl rfl rfl inferInstance ?_) | (refine' aDq hR rfl rfl rfl inferInstance rfl ?_; clear hR; intro w hR) | (refine' aEq hR rfl rfl rfl inferInstance rfl rfl ?_; clear hR; intro w hR) | (refine' wpList_copyRep hR rfl rfl Tryz.underlying49 sz_u8 rfl rfl cs hln.out xAx.head hmn.out (hsrc w (hR.weaken (List.sublist_cons_self _ _))) hfit hone hcopy.out ?_; clear hR; intro w hR))
        have hf := hnext.out (by have := hkn.out; have := hn.out; omega)
        refine hK.out ⟨c + n, r2, v'⟩ _ _ ⟨hle2, hf.1, hv1.out, hv2.out⟩ (by show xs.length - (c + n) < xs.length - c; omega) (xAu rfl rfl rfl) ?_
        show Rep B0 w0 ((sb, sumC (m ++ xs.take (c + n)) r2) :: L) w
        unfold sumC
        rw [hf.2, hlen.out]
        exact hR
end Go.Proofs.YtgfoeongjhkdmaaGreat
namespace Go.Proofs.YtgfoeongjhkdmaaGreat
open Go.RowKit
section
variable {P : Program} {ops : Array Oper} {rest : List Oper} {o : Oper} {a : Act} {w w0 : World} {Q : Exit → Act → World → Prop} {B0 : Nat} {L : List (Nat × Obj)}
theorem Rep.grow' {w' : World} {row : Option Nat} (h : Rep B0 w0 L w) (hg : w.grownBy w' row) (hr : ∀ r, row = some r → B0 ≤ r ∧ ∀ p, p ∈ L → p.1 ≠ r) : Rep B0 w0 L w' :=
  ⟨h.below.grown hg h.le (fun k hk => (hr k hk).1), by have := hg.size; have := h.le; omega, fun p hp => ⟨(h.own p hp).1, by
    have hp1 := (h.own p hp).2
    have hlt : p.1 < w.heap.size := (Array.getElem?_eq_some_iff.1 hp1).1
    rw [hg.block p.1 hlt (fun e => (hr p.1 e.symm).2 p hp rfl)]
    exact hp1⟩, h.uniq⟩
theorem Rep.add' (h : Rep B0 w0 L w) {b : Nat} {o : Obj} (hb : B0 ≤ b) (ho : w.heap[b]? = some o) (hn : ∀ p, p ∈ L → p.1 ≠ b) : Rep B0 w0 ((b, o) :: L) w :=
  ⟨h.below, h.le, fun p hp => by
    rcases List.mem_cons.1 hp with rfl | hp
    · exact ⟨hb, ho⟩
    · exact h.own p hp, by
    rw [List.map_cons, List.nodup_cons]
    refine ⟨fun hm => ?_, h.uniq⟩
    obtain ⟨p, hp, e⟩ := List.mem_map.1 hm
    exact hn p hp e⟩
theorem Rep.drop1 {p : Nat × Obj} (h : Rep B0 w0 (p :: L) w) : Rep B0 w0 L w := h.weaken (List.sublist_cons_self _ _)
theorem Rep.apart {p : Nat × Obj} (h : Rep B0 w0 (p :: L) w) : ∀ q, q ∈ L → q.1 ≠ p.1 := fun q hq e => by
  have := h.uniq
  rw [List.map_cons, List.nodup_cons] at this
  exact this.1 (List.mem_map.2 ⟨q, hq, e⟩)
theorem Rep.swap' {p q : Nat × Obj} (h : Rep B0 w0 (p :: q :: L) w) : Rep B0 w0 (q :: p :: L) w :=
  ⟨h.below, h.le, fun r hr => h.own r (by
    rcases List.mem_cons.1 hr with rfl | hr
    · exact .tail _ (.head _)
    · rcases List.mem_cons.1 hr with rfl | hr
      · exact .head _
      · exact .tail _ (.tail _ hr)), by
    have := h.uniq
    simp only [List.map_cons, List.nodup_cons, List.mem_cons, not_or] at this ⊢
    exact ⟨⟨fun e => this.1.1 e.symm, this.2.1⟩, this.1.2, this.2.2⟩⟩
theorem wpList_appendRep {g cap n : Nat} {cur : List Value} {E t : TypeId} (hR : Rep B0 w0 ((g, .cells cur.toArray E) :: L) w) (hgd : o.guard = none) {s x : Operand} (ho : o.op = .call { callee := .builtin .append, args := #[s, x], argTypes := #[t, t] })
    {i : TypeInfo} {z : Value} {bytes : Nat} (ht : P.underlying t = some (.slice E)) (hi : P.info? E = some i) (hz : i.zero = some z) (hsize : i.size = 1) (hby : i.bytes = bytes) (hzs : z.cells.size = 1)
    (hs : a.eval s = .slice (some ⟨g, 0, none⟩) n cap) (hn : n ≤ cap) (hc : cap ≤ maxLen) (hcl : cur.length = cap) {ad : Addr} {m c : Nat} (hx : a.eval x = .slice (some ad) m c) {news : List Value} (hl : news.length = m)
    (hnews : ∀ j u, news[j]? = some u → w.cell? (ad.add j) = some u) (h1 : ∀ u ∈ news, u.oneCell' = true) (h63 : n + m ≤ maxLen) (hbytes : (n + m) * bytes ≤ 140737488355328)
    (h : ∀ g' cap' (cur' : List Value) w', Rep B0 w0 ((g', .cells cur'.toArray E) :: L) w' → n + m ≤ cap' → cap' ≤ maxLen → cur'.length = cap' → cur'.take (n + m) = cur.take n ++ news → wpList P ops Q rest (a.put o.dst (.slice (some ⟨g', 0, none⟩) (n + m) cap')) w') :
    wpList P ops Q (o :: rest) a w := by
  have hown : w.ownsRow B0 E 1 (.slice (some ⟨g, 0, none⟩) n cap) n (cur.take n) :=
    ⟨by simp; omega, .inr ⟨g, cap, cur.toArray, rfl, (hR.own _ (.head _)).1, (hR.own _ (.head _)).2, hn, hc, by simp [hcl], by simp⟩⟩
  refine wpList_append_own_at (P := P) w hgd s x t ho B0 E i z 1 bytes ht hi hz hsize hby hzs (by decide) _ n (cur.take n) hs hown ad m c news hx (by simpa using hl) hnews h1 h63 hbytes hR.le ?_
  intro v' w' hO hg hiff hat
  obtain ⟨hl', ⟨hv, _⟩ | ⟨g', cap', cur', rfl, hB, hh, h2, h3, h4, h5⟩⟩ := hO
  · exact absurd (hiff.1 hv).1 (by simp)
  · have hR' := hR.drop1.grow' hg (fun r hr => by
      obtain rfl : g = r := Option.some.inj hr
      exact ⟨(hR.own _ (.head _)).1, hR.apart⟩)
    have hR2 := hR'.add' hB hh (fun p hp e => by
      rcases hat with hat | hat
      · have hgg : g' = g := Option.some.inj hat
        exact hR.apart p hp (e.trans hgg)
      · have hgg : g' = w.heap.size := Option.some.inj hat
        have := hR.lt (.tail _ hp)
        omega)
    refine h g' cap' cur'.toList w' (by simpa using hR2) h2 h3 (by simpa using h4) (by simpa using h5)
theorem xCd {b g cap n : Nat} {cur : List Value} {E t : TypeId} {v : Value} (hR : Rep B0 w0 ((b, .cells [v].toArray E) :: (g, .cells cur.toArray E) :: L) w) (hgd : o.guard = none) {s x : Operand} (ho : o.op = .call { callee := .builtin .append, args := #[s, x], argTypes := #[t, t] })
    {i : TypeInfo} {z : Value} {bytes : Nat} (ht : P.underlying t = some (.slice E)) (hi : P.info? E = some i) (hz : i.zero = some z) (hsize : i.size = 1) (hby : i.bytes = bytes) (hzs : z.cells.size = 1)
    (hs : a.eval s = .slice (some ⟨g, 0, none⟩) n cap) (hx : a.eval x = .slice (some ⟨b, 0, none⟩) 1 1) (hn : n ≤ cap) (hc : cap ≤ maxLen) (hcl : cur.length = cap) (h1 : v.oneCell' = true) (h63 : n + 1 ≤ maxLen) (hbytes : (n + 1) * bytes ≤ 140737488355328)
    (h : ∀ g' cap' (cur' : List Value) w', Rep B0 w0 ((g', .cells cur'.toArray E) :: L) w' → n + 1 ≤ cap' → cap' ≤ maxLen → cur'.length = cap' → cur'.take (n + 1) = cur.take n ++ [v] → wpList P ops Q rest (a.put o.dst (.slice (some ⟨g', 0, none⟩) (n + 1) cap')) w') :
    wpList P ops Q (o :: rest) a w := by
  refine wpList_appendRep hR.swap' hgd ho ht hi hz hsize hby hzs hs hn hc hcl hx (news := [v]) rfl (fun j u hj => ?_) (fun u hu => by rw [List.mem_singleton.1 hu]; exact h1) h63 hbytes (fun g' cap' cur' w' hR' h2 h3 h4 h5 => ?_)
  · match j, hj with
    | 0, hj =>
      obtain rfl : v = u := Option.some.inj hj
      have := hR.cell (off := 0) (l := [v]) (.head _) rfl
      simpa [Addr.add] using this
  · exact h g' cap' cur' w' (hR'.weaken ((List.sublist_cons_self _ _).cons_cons _)) h2 h3 h4 h5
theorem xBp {el ty : TypeId} {x : Operand} {v : Value} (hR : Rep B0 w0 L w) (hg : o.guard = none) (hop : o.op = .buildSlice ty 1 #[(0, x)]) (hx : ev a x = some v) (hrun : ∀ w, (Instr.buildSlice ty 1 #[(0, v)]).run P w = .ok (.slice (some ⟨w.heap.size, 0, none⟩) 1 1) (w.alloc (.cells [v].toArray el)))
    (h : ∀ b w', Rep B0 w0 ((b, .cells [v].toArray el) :: L) w' → wpList P ops Q rest (a.put o.dst (.slice (some ⟨b, 0, none⟩) 1 1)) w') : wpList P ops Q (o :: rest) a w :=
  wpList_plain hg fun _ hK => by
    have hx := xBt hx
    unfold Oper.wp execOp
    simp only [hop, List.map_toArray, List.map_cons, List.map_nil, hx, hrun, Sem.run_bind, Result.andThen_ok, Sem.run_pure]
    exact hK _ _ (h _ _ (hR.alloc _))
theorem wpList_makeRep {ty E : TypeId} {x y : Operand} {vx vy : Value} {n c : Nat} {l : List Value} (hR : Rep B0 w0 L w) (hg : o.guard = none) (hop : o.op = .makeSlice ty x y) (hx : ev a x = some vx) (hy : ev a y = some vy)
    (hrun : ∀ w, (Instr.makeSlice ty vx vy).run P w = .ok (.slice (some ⟨w.heap.size, 0, none⟩) n c) (w.alloc (.cells l.toArray E)))
    (h : ∀ b w', Rep B0 w0 ((b, .cells l.toArray E) :: L) w' → wpList P ops Q rest (a.put o.dst (.slice (some ⟨b, 0, none⟩) n c)) w') : wpList P ops Q (o :: rest) a w :=
  wpList_plain hg fun _ hK => by
    have hx := xBt hx
    have hy := xBt hy
    unfold Oper.wp execOp
    simp only [hop, hx, hy, hrun, Sem.run_bind, Result.andThen_ok, Sem.run_pure]
    exact hK _ _ (h _ _ (hR.alloc _))
end
end Go.Proofs.YtgfoeongjhkdmaaGreat
