/- Regions that draw their order and make variables, however many. -/
import Derived.Test.YtdmdkdodfngjiaaAlloc
set_option linter.unusedSimpArgs false
set_option linter.unusedVariables false
namespace Go.Proofs.Ytdmdkdodfngjiaa
open Go.RowKit
section
variable {P : Program} {ops : Array Oper} {B0 : Nat} {w0 : World} {Kp : List (Nat × Obj)} {Q : Exit → Act → World → Prop}

theorem Rep.perm {L L2 : List (Nat × Obj)} (h : L.Perm L2) : Rep B0 w0 L = Rep B0 w0 L2 := by
  have one : ∀ {L L2 : List (Nat × Obj)} w, L.Perm L2 → Rep B0 w0 L w → Rep B0 w0 L2 w := fun w h r =>
    ⟨r.below, r.le, fun p hp => r.own p (h.mem_iff.2 hp), (h.map (·.1)).nodup_iff.1 r.uniq⟩
  funext w
  exact propext ⟨one w h, one w h.symm⟩
/-- The same own blocks, whatever comes on top. -/
def RepEq (B0 : Nat) (w0 : World) (L L2 : List (Nat × Obj)) : Prop := ∀ M, Rep B0 w0 (M ++ L) = Rep B0 w0 (M ++ L2)
theorem RepEq.refl (L : List (Nat × Obj)) : RepEq B0 w0 L L := fun _ => rfl
theorem RepEq.trans {L L2 L3 : List (Nat × Obj)} (h : RepEq B0 w0 L L2) (k : RepEq B0 w0 L2 L3) : RepEq B0 w0 L L3 := fun M => (h M).trans (k M)
theorem RepEq.cons {L L2 : List (Nat × Obj)} (p : Nat × Obj) (h : RepEq B0 w0 L L2) : RepEq B0 w0 (p :: L) (p :: L2) := fun M => by
  have := h (M ++ [p])
  simpa using this
theorem RepEq.swap (p q : Nat × Obj) (L : List (Nat × Obj)) : RepEq B0 w0 (p :: q :: L) (q :: p :: L) := fun M => Rep.perm (List.Perm.append_left M (List.Perm.swap q p L))

theorem wpAnyI_E : ∀ (f : Nat) (listed : Array Bool) (a : Act) (L L2 : List (Nat × Obj)), RepEq B0 w0 L L2 → wpAnyI P ops B0 w0 Kp Q f listed a L → wpAnyI P ops B0 w0 Kp Q f listed a L2
  | 0, _, _, L, L2, he, h => ⟨h.1, fun w hw => h.2 w (by have := he []; simp only [List.nil_append] at this; rw [this]; exact hw)⟩
  | f + 1, listed, a, L, L2, he, h => by
    have e0 := he []
    simp only [List.nil_append] at e0
    refine ⟨fun h0 w hw => h.1 h0 w (by rw [e0]; exact hw), fun i hi => ?_⟩
    obtain ⟨o, ho, ⟨ob, hal, hn⟩ | ⟨v, L', hy, hk, hn⟩⟩ := h.2 i hi
    · exact ⟨o, ho, .inl ⟨ob, hal, fun b => wpAnyI_E f _ _ _ _ (he.cons _) (hn b)⟩⟩
    · exact ⟨o, ho, .inr ⟨v, L', by rw [← e0]; exact hy, hk, hn⟩⟩

/-- A new variable: its operation's number, its slot, the operation, what it holds. -/
structure Al where
  i : Nat
  d : Tmp
  o : Oper
  z : Obj
def exts : List Al → List Nat → List (Nat × Obj) → List (Nat × Obj)
  | x :: R, b :: bs, L => exts R bs ((b, x.z) :: L)
  | _, _, L => L
def putsA : List Al → List Nat → Act → Act
  | x :: R, b :: bs, a => putsA R bs (a.put (some x.d) (ptrTo b))
  | _, _, a => a
def outs : List Nat → List (Nat × List Nat)
  | [] => []
  | x :: r => (x, r) :: (outs r).map fun p => (p.1, x :: p.2)
theorem mem_outs (x : Nat) (r2 : List Nat) : ∀ r1 : List Nat, (x, r1 ++ r2) ∈ outs (r1 ++ x :: r2)
  | [] => .head _
  | y :: r1 => .tail _ (List.mem_map.2 ⟨(x, r1 ++ r2), mem_outs x r2 r1, rfl⟩)
def okB (ops : Array Oper) : Nat → List Nat → Array Bool → Bool
  | 0, R, _ => R.isEmpty
  | f + 1, R, listed => R.isEmpty || (decide (Region.ready .any ops listed = R) && (outs R).all fun p => okB ops f p.2 (listed.setIfInBounds p.1 true))
def AllAl (P : Program) (ops : Array Oper) : List Al → Prop
  | [] => True
  | x :: R => (ops[x.i]? = some x.o ∧ x.o.dst = some x.d ∧ IsAlloc P x.o x.z) ∧ AllAl P ops R
theorem AllAl.nil : AllAl P ops [] := trivial
theorem AllAl.cons {i : Nat} {d : Tmp} {o : Oper} {z : Obj} {R : List Al} (h1 : ops[i]? = some o) (h2 : o.dst = some d) (h3 : IsAlloc P o z) (h : AllAl P ops R) : AllAl P ops (⟨i, d, o, z⟩ :: R) := ⟨⟨h1, h2, h3⟩, h⟩
theorem AllAl.mem {R : List Al} (h : AllAl P ops R) : ∀ x ∈ R, ops[x.i]? = some x.o ∧ x.o.dst = some x.d ∧ IsAlloc P x.o x.z := by
  induction R with
  | nil => intro x hx; cases hx
  | cons y R ih =>
    intro x hx
    cases hx with
    | head => exact h.1
    | tail _ hx => exact ih h.2 x hx
theorem AllAl.of {R : List Al} (h : ∀ x ∈ R, ops[x.i]? = some x.o ∧ x.o.dst = some x.d ∧ IsAlloc P x.o x.z) : AllAl P ops R := by
  induction R with
  | nil => exact trivial
  | cons x R ih => exact ⟨h x (.head _), ih fun y hy => h y (.tail _ hy)⟩

theorem exts_E : ∀ (R : List Al) (bs : List Nat) {L L2 : List (Nat × Obj)}, RepEq B0 w0 L L2 → RepEq B0 w0 (exts R bs L) (exts R bs L2)
  | [], _, _, _, h => h
  | _ :: _, [], _, _, h => h
  | x :: R, b :: bs, _, _, h => exts_E R bs (h.cons _)
theorem exts_mid (x : Al) (b : Nat) (R2 : List Al) (bs2 : List Nat) : ∀ (R1 : List Al) (bs1 : List Nat) (L : List (Nat × Obj)), bs1.length = R1.length → RepEq B0 w0 (exts (R1 ++ x :: R2) (bs1 ++ b :: bs2) L) (exts (R1 ++ R2) (bs1 ++ bs2) ((b, x.z) :: L))
  | [], [], L, _ => RepEq.refl _
  | y :: R1, c :: bs1, L, h => by
    have h' : bs1.length = R1.length := by simpa using h
    exact (exts_mid x b R2 bs2 R1 bs1 ((c, y.z) :: L) h').trans (exts_E _ _ (RepEq.swap _ _ _))
theorem putsA_mid (x : Al) (b : Nat) (R2 : List Al) (bs2 : List Nat) : ∀ (R1 : List Al) (bs1 : List Nat) (a : Act), bs1.length = R1.length → (∀ y ∈ R1, y.d ≠ x.d) → putsA (R1 ++ x :: R2) (bs1 ++ b :: bs2) a = putsA (R1 ++ R2) (bs1 ++ bs2) (a.put (some x.d) (ptrTo b))
  | [], [], a, _, _ => rfl
  | y :: R1, c :: bs1, a, h, hd => by
    have h' : bs1.length = R1.length := by simpa using h
    show putsA (R1 ++ x :: R2) (bs1 ++ b :: bs2) (a.put (some y.d) (ptrTo c)) = putsA (R1 ++ R2) (bs1 ++ bs2) ((a.put (some x.d) (ptrTo b)).put (some y.d) (ptrTo c))
    rw [putsA_mid x b R2 bs2 R1 bs1 _ h' (fun z hz => hd z (.tail _ hz)), Act.put_comm a _ _ (fun d h1 h2 => hd y (.head _) (by rw [Option.some.inj h1, Option.some.inj h2]))]
theorem setAll_mid (x : Nat) (r2 : List Nat) : ∀ (r1 : List Nat) (listed : Array Bool), setAll (r1 ++ x :: r2) listed = setAll (r1 ++ r2) (listed.setIfInBounds x true)
  | [], _ => rfl
  | y :: r1, listed => by
    show setAll (r1 ++ x :: r2) (listed.setIfInBounds y true) = setAll (r1 ++ r2) ((listed.setIfInBounds x true).setIfInBounds y true)
    rw [setAll_mid x r2 r1]
    by_cases h : x = y
    · subst h; rfl
    · rw [Array.setIfInBounds_comm _ _ h]

theorem allocs_all {n : Nat} : ∀ (k : Nat) (R : List Al) (listed : Array Bool) (a : Act) (L : List (Nat × Obj)), R.length = k → okB ops k (R.map (·.i)) listed = true → AllAl P ops R → (R.map (·.d)).Nodup →
    (∀ bs, bs.length = R.length → wpAnyI P ops B0 w0 Kp Q n (setAll (R.map (·.i)) listed) (putsA R bs a) (exts R bs L)) → wpAnyI P ops B0 w0 Kp Q (k + n) listed a L
  | 0, R, listed, a, L, hk, _, _, _, T => by
    obtain rfl : R = [] := List.length_eq_zero_iff.1 hk
    rw [Nat.zero_add]
    exact T [] rfl
  | k + 1, R, listed, a, L, hk, hB, hA, hd, T => by
    have hne : (R.map (·.i)).isEmpty = false := by
      cases R with
      | nil => simp at hk
      | cons x r => rfl
    unfold okB at hB
    rw [hne, Bool.false_or, Bool.and_eq_true, decide_eq_true_eq] at hB
    rw [show k + 1 + n = (k + n) + 1 by omega]
    refine ⟨fun h0 => (by rw [h0] at hB; rw [← hB.1] at hne; cases hne), fun i hi => ?_⟩
    rw [hB.1] at hi
    obtain ⟨x, hx, rfl⟩ := List.mem_map.1 hi
    obtain ⟨R1, R2, rfl⟩ := List.append_of_mem hx
    obtain ⟨h1, h2, h3⟩ := hA.mem x hx
    refine ⟨x.o, h1, .inl ⟨x.z, h3, fun b => ?_⟩⟩
    rw [h2]
    rw [List.map_append, List.map_cons] at hd hB
    have hd2 := (List.nodup_append.1 hd)
    refine allocs_all k (R1 ++ R2) _ _ _ (by simp at hk ⊢; omega) ?_ (AllAl.of fun y hy => hA.mem y (by
      rcases List.mem_append.1 hy with hy | hy
      · exact List.mem_append.2 (.inl hy)
      · exact List.mem_append.2 (.inr (.tail _ hy)))) ?_ ?_
    · have := List.all_eq_true.1 hB.2 _ (mem_outs x.i (R2.map (·.i)) (R1.map (·.i)))
      rw [List.map_append]
      exact this
    · rw [List.map_append]
      exact List.Nodup.sublist (List.Sublist.append_left (List.sublist_cons_self _ _) _) hd
    · intro bs hbs
      have e : bs = bs.take R1.length ++ bs.drop R1.length := (List.take_append_drop _ _).symm
      have l1 : (bs.take R1.length).length = R1.length := by simp at hbs ⊢; omega
      have hT := T (bs.take R1.length ++ b :: bs.drop R1.length) (by simp at hbs ⊢; omega)
      have hdd : ∀ y ∈ R1, y.d ≠ x.d := fun y hy => hd2.2.2 _ (List.mem_map.2 ⟨y, hy, rfl⟩) _ (.head _)
      rw [List.map_append, List.map_cons, setAll_mid, ← List.map_append, putsA_mid x b R2 _ R1 _ a l1 hdd] at hT
      have hT2 := wpAnyI_E _ _ _ _ _ (exts_mid x b R2 _ R1 _ L l1) hT
      rw [← e] at hT2
      exact hT2

def allocsOK (ops : Array Oper) (ord : List (Nat × Bool)) (R : List Nat) (ds : List Nat) (r : List Nat) : Bool :=
  let x := setAll (ord.map (·.1)) (Array.replicate ops.size false)
  Region.noSelect ops && ordB ops (ord.map (·.1)) (Array.replicate ops.size false) && ord.all (·.2) && okB ops R.length R x && seqB ops r (setAll R x) && distinctB ds && r.all (fun t => decide (t < ops.size))

/-- A region with new variables, however many. -/
theorem wp_region_allocs {id : Nat} {w : World} {l : List Oper} {L : List (Nat × Obj)} {a : Act} (hR : Rep B0 w0 L w) (ts : List Nat) (R : List Al) (r : List Nat) (hm : P.follows .mixedOrders = true) (hB : allocsOK l.toArray (ordFrom 0 ts) (R.map (·.i)) (R.map (·.d)) r = true) (htl : tlFrom 0 ts = R.map (·.i) ++ r)
    (hlen : ts.length = l.length) (hlen2 : (ordFrom 0 ts).length + (R.length + r.length) = l.length) (hA : AllAl P l.toArray R)
    (h : ∀ K : List Oper → Act → Prop, (∀ r' a', (∀ bs, bs.length = R.length → tailM P l.toArray (keeps B0 w0 L) Q r' (Rep B0 w0 (exts R bs L)) (putsA R bs a')) → K (R.map (·.o) ++ r') a') → headM P l.toArray (keeps B0 w0 L) (Rep B0 w0 L) K ts l [] a) : (Code.region id l.toArray true).wp P Q a w := by
  simp only [allocsOK, Bool.and_eq_true] at hB
  obtain ⟨⟨⟨⟨⟨⟨h1, h2⟩, h3⟩, h4⟩, h5⟩, h6⟩, h7⟩ := hB
  refine wp_region_any hm ?_
  have hlt : ∀ t ∈ r, t < l.toArray.size := fun t ht => by simpa using List.all_eq_true.1 h7 t ht
  have hH := h (fun tl a' => ∃ r', tl = R.map (·.o) ++ r' ∧ ∀ bs, bs.length = R.length → tailM P l.toArray (keeps B0 w0 L) Q r' (Rep B0 w0 (exts R bs L)) (putsA R bs a')) (fun r' a' h' => ⟨r', rfl, h'⟩)
  have fm : ∀ R : List Al, AllAl P l.toArray R → ∀ r : List Nat, (R.map (·.i) ++ r).filterMap (l.toArray[·]?) = R.map (·.o) ++ r.filterMap (l.toArray[·]?) := by
    intro R
    induction R with
    | nil => intro _ r; rfl
    | cons x R ih =>
      intro hA r
      rw [List.map_cons, List.cons_append, List.filterMap_cons_some hA.1.1, ih hA.2 r]
      rfl
  have hW := headW_of_M (P := P) (ops := l.toArray) (I := keeps B0 w0 L) (C := Rep B0 w0 L) (K := fun a' => ∀ bs, bs.length = R.length → tailM P l.toArray (keeps B0 w0 L) Q (r.filterMap (l.toArray[·]?)) (Rep B0 w0 (exts R bs L)) (putsA R bs a')) ts l [] 0 a hlen (fun j => by simp) (fun a' ha' => by
    obtain ⟨r', e, h'⟩ := ha'
    rw [htl, List.nil_append, fm R hA] at e
    obtain rfl := List.append_cancel_left e
    exact h') hH
  have key := headI_all (Q := Q) (n := R.length + r.length) h1 (fun p hp => hp) (ordFrom 0 ts) (Array.replicate l.toArray.size false) a (fun p hp => by simpa using List.all_eq_true.1 h3 p hp) h2 hW (fun a' ha' =>
    allocs_all R.length R _ a' L rfl (by simpa using h4) hA (distinctB_spec _ h6) fun bs hbs => tailI r _ _ _ hlt h5 (ha' bs hbs))
  have := wpAny_of_I _ _ _ _ _ hR.drew key
  rw [hlen2] at this
  simpa using this
end
theorem len3 {bs : List Nat} (h : bs.length = 3) : ∃ b1 b2 b3, bs = [b1, b2, b3] := by
  match bs, h with
  | [b1, b2, b3], _ => exact ⟨b1, b2, b3, rfl⟩
theorem len4 {bs : List Nat} (h : bs.length = 4) : ∃ b1 b2 b3 b4, bs = [b1, b2, b3, b4] := by
  match bs, h with
  | [b1, b2, b3, b4], _ => exact ⟨b1, b2, b3, b4, rfl⟩
end Go.Proofs.Ytdmdkdodfngjiaa
