/- A sum's cells; the contract of (*Sum).writes. -/
import Derived.Laws.CopyOwn
import Derived.Test.YtllmpiamcghboaaShaTake
set_option linter.unusedSimpArgs false
set_option linter.unusedVariables false
namespace Go.Proofs.Ytllmpiamcghboaa
open Go.RowKit
attribute [local irreducible] Calls

/-- A sum's cells. -/
noncomputable def sumL (h : S8) (r : Nat → Nat) (n : Nat) : List Value := opq (.int .i64 1 :: (s8L h ++ (u8s 64 r ++ [.int .u64 (n : Int)])))
theorem sumL_def (h : S8) (r : Nat → Nat) (n : Nat) : sumL h r n = .int .i64 1 :: (s8L h ++ (u8s 64 r ++ [.int .u64 (n : Int)])) := by unfold sumL; rw [opq_eq]
@[simp] theorem sumL_length (h : S8) (r : Nat → Nat) (n : Nat) : (sumL h r n).length = 74 := by
  rw [sumL_def]
  simp [s8L_length]
theorem sumL_made (h : S8) (r : Nat → Nat) (n : Nat) : (sumL h r n)[0]? = some (.int .i64 1) := by rw [sumL_def]; rfl
theorem sumL_many (h : S8) (r : Nat → Nat) (n : Nat) : (sumL h r n)[73]? = some (.int .u64 (n : Int)) := by
  rw [sumL_def]
  rw [show 73 = 72 + 1 from rfl, List.getElem?_cons_succ, List.getElem?_append_right (by rw [s8L_length]; omega), List.getElem?_append_right (by simp [s8L_length])]
  simp [s8L_length]
theorem sumL_now (h : S8) (r : Nat → Nat) (n : Nat) : ((sumL h r n).drop 1).take 8 = s8L h := by
  rw [sumL_def, List.drop_succ_cons, List.drop_zero, List.take_append_of_le_length (by rw [s8L_length]; omega), List.take_of_length_le (by rw [s8L_length]; omega)]
theorem sumL_rest (h : S8) (r : Nat → Nat) (n : Nat) : ((sumL h r n).drop 9).take 64 = u8s 64 r := by
  rw [sumL_def, show 9 = 8 + 1 from rfl, List.drop_succ_cons, List.drop_append_of_le_length (by rw [s8L_length]; omega), List.drop_of_length_le (by rw [s8L_length]; omega), List.nil_append, List.take_append_of_le_length (by simp), List.take_of_length_le (by simp)]
theorem sumL_setMany (h : S8) (r : Nat → Nat) (n n' : Nat) : (sumL h r n).set 73 (.int .u64 (n' : Int)) = sumL h r n' := by
  rw [sumL_def, sumL_def, show 73 = 72 + 1 from rfl, List.set_cons_succ, List.set_append_right _ _ (by rw [s8L_length]; omega), List.set_append_right _ _ (by simp [s8L_length])]
  simp [s8L_length]
theorem sumL_setNow (h h' : S8) (r : Nat → Nat) (n : Nat) : (sumL h r n).take 1 ++ s8L h' ++ (sumL h r n).drop (1 + 8) = sumL h' r n := by
  rw [sumL_def, sumL_def, show 1 + 8 = 8 + 1 from rfl, List.drop_succ_cons, List.drop_append_of_le_length (by rw [s8L_length]; omega), List.drop_of_length_le (by rw [s8L_length]; omega)]
  simp
/-- What is copied into the rest. -/
def laid (r : Nat → Nat) (at' n : Nat) (x : Nat → Nat) : Nat → Nat := fun j => if at' ≤ j ∧ j < at' + n then x (j - at') else r j
theorem sumL_copy (h : S8) (r x : Nat → Nat) (m at' n : Nat) (hn : at' + n ≤ 64) : (sumL h r m).take (9 + at') ++ u8s n x ++ (sumL h r m).drop (9 + at' + n) = sumL h (laid r at' n x) m := by
  have e : ∀ r : Nat → Nat, sumL h r m = (.int .i64 1 :: s8L h) ++ (u8s 64 r ++ [.int .u64 (m : Int)]) := fun r => by rw [sumL_def]; rfl
  have l9 : (Value.int .i64 1 :: s8L h).length = 9 := rfl
  have key : (u8s 64 r).take at' ++ u8s n x ++ (u8s 64 r).drop (at' + n) = u8s 64 (laid r at' n x) := by
    refine List.ext_getElem? fun k => ?_
    by_cases hk : k < 64
    · rw [u8s_at hk]
      by_cases h1 : k < at'
      · rw [List.append_assoc, List.getElem?_append_left (by simp; omega), List.getElem?_take, if_pos h1, u8s_at hk]
        unfold laid
        rw [if_neg (by omega)]
      · by_cases h2 : k < at' + n
        · rw [List.append_assoc, List.getElem?_append_right (by simp; omega), List.getElem?_append_left (by simp; omega)]
          have : k - ((u8s 64 r).take at').length = k - at' := by simp; omega
          rw [this, u8s_at (by omega)]
          unfold laid
          rw [if_pos (by omega)]
        · rw [List.getElem?_append_right (by simp; omega), List.getElem?_drop]
          have : at' + n + (k - ((u8s 64 r).take at' ++ u8s n x).length) = k := by simp; omega
          rw [this, u8s_at hk]
          unfold laid
          rw [if_neg (by omega)]
    · rw [List.getElem?_eq_none (by simp; omega), List.getElem?_eq_none (by simp; omega)]
  rw [e, e, ← key, List.take_append, List.take_of_length_le (by rw [l9]; omega), l9, show 9 + at' - 9 = at' by omega, List.take_append_of_le_length (by simp; omega), List.drop_append, l9,
    List.drop_of_length_le (by rw [l9]; omega), List.nil_append, show 9 + at' + n - 9 = at' + n by omega, List.drop_append_of_le_length (by simp; omega)]
  simp only [List.append_assoc]

/-- Bytes that lie there, in every world of the class. -/
def Src (B0 : Nat) (w0 : World) (L : List (Nat × Obj)) (ad : Addr) (n : Nat) (x : Nat → Nat) : Prop := ∀ w, Rep B0 w0 L w → ∀ j, j < n → w.cell? (ad.add j) = some (.int .u8 (x j : Int))

section
variable {P : Program} {ops : Array Oper} {rest : List Oper} {o : Oper} {a : Act} {w w0 : World} {Q : Exit → Act → World → Prop} {B0 : Nat} {L L' : List (Nat × Obj)}
theorem wpList_copyRep (hR : Rep B0 w0 L w) (hgd : o.guard = none) {d s : Operand} {dT sT : TypeId} (ho : o.op = .call { callee := .builtin .copy, args := #[d, s], argTypes := #[dT, sT] }) {elem : TypeId} (hu : P.underlying dT = some (.slice elem)) (hsz : (P.info? elem).map (·.size) = some 1)
    {g off dLen dCap sLen sCap : Nat} {ad : Addr} (hd : a.eval d = .slice (some ⟨g, off, none⟩) dLen dCap) (hs : a.eval s = .slice (some ad) sLen sCap) {l l' : List Value} {t : TypeId} (cs : List Value) {n : Nat} (hlen : cs.length = n) (hset : SetAt L g (.cells l.toArray t) (.cells l'.toArray t) L') (hn : n = Nat.min sLen dLen)
    (hsrc : ∀ j v, cs[j]? = some v → w.cell? (ad.add j) = some v) (hfit : off + n ≤ l.length) (h1 : ∀ v ∈ cs, v.oneCell' = true) (hl : l.take off ++ cs ++ l.drop (off + n) = l')
    (h : ∀ w', Rep B0 w0 L' w' → wpList P ops Q rest (a.put o.dst (.int .i64 (n : Int))) w') : wpList P ops Q (o :: rest) a w := by
  subst hl
  subst hlen
  refine wpList_plain hgd fun K hK => ?_
  have hg := (hR.own _ hset.spec.1).2
  have hrun := run_copy_row (P := P) w dT sT o.type elem g off dLen dCap ad sLen sCap l.toArray t cs hu hsz hg hn hsrc (by simpa using hfit) h1
  unfold Oper.wp
  simp [execOp, ho, resolve, invoke, builtin, hd, hs, hrun, Result.andThen]
  refine hK _ _ (h _ (hR.put hset ?_ (fun k hk => setRow_other w g k _ hk) rfl rfl rfl (by simp [World.setRow])))
  have := setRow_heap w g l.toArray (l.take off ++ (cs ++ l.drop (off + cs.length))).toArray t (0, 0) hg
  simpa using this
end
theorem cut_slice (bb bo q cp n : Nat) (hn : n ≤ q) (hq : q ≤ cp) (hc : cp ≤ maxLen) (w : World) :
    (Instr.sliceAt 24 (.slice (some ⟨bb, bo, none⟩) q cp) (some (.int .i64 (n : Int))) none none).run Try.prog w = .ok (.slice (some (if cp = n then ⟨bb, bo, none⟩ else ⟨bb, bo + n, none⟩)) (q - n) (cp - n)) w := by
  unfold maxLen at hc
  have h0 : 0 ≤ (n : Int) := by omega
  have h1 : (n : Int) ≤ (q : Int) := by omega
  by_cases h : cp = n
  · subst h
    obtain rfl : q = cp := by omega
    go_simp
  · rw [if_neg h]
    go_simp
theorem sz_u8 : (Try.prog.info? 5).map (·.size) = some 1 := by kernel_rfl
theorem u8s_mem (n : Nat) (x : Nat → Nat) : ∀ v ∈ u8s n x, v.oneCell' = true := fun v hv => by
  rw [u8s_def] at hv
  obtain ⟨j, _, rfl⟩ := List.mem_map.1 hv
  rfl
end Go.Proofs.Ytllmpiamcghboaa
