import Derived.WalkKit
import Derived.WalkSpells
import Derived.WalkLawsBesides
import Derived.Outline
import Derived.Deep.Quiet
import Derived.Deep.MidRow
import Derived.Handy
import Derived.Test.YtaaahfjpnggkbaaGreatDoorProg
import Derived.ChangeKeysEq
import Derived.ProofKit
import Derived.OpenShut
import Derived.Laws.IdiomArrays
set_option linter.unusedSimpArgs false
set_option linter.unusedVariables false
set_option maxRecDepth 100000
set_option maxHeartbeats 20000000
namespace Go.Proofs.YtaaahfjpnggkbaaGreatDoor
theorem mT {α : Type _} {a : α} (b : α) {l : List α} (h : List.Mem a l) : List.Mem a (b :: l) := .tail b h
theorem mC {α : Type _} (y : α) {a : α} {l : List α} (h : a ∈ l) : a ∈ y :: l := List.mem_cons_of_mem y h
theorem oD {p : Prop} [Decidable p] (h : decide p = true) : p := of_decide_eq_true h
open Go.RowKit
section
universe u
noncomputable def opq {α : Type} (x : α) : α := (Classical.choice (⟨⟨x, rfl⟩⟩ : Nonempty { y : α // y = x })).val
theorem xBs {α : Type} (x : α) : opq x = x := (Classical.choice (⟨⟨x, rfl⟩⟩ : Nonempty { y : α // y = x })).property
structure Rep (B0 : Nat) (w0 : World) (L : List (Nat × Obj)) (w : World) : Prop where
 below : Below B0 w0 w
 le : B0 ≤ w.heap.size
 own : ∀ p, p ∈ L → B0 ≤ p.1 ∧ w.heap[p.1]? = some p.2
 uniq : (L.map (·.1)).Nodup
def xBq : List (Nat × Obj) → Nat → Obj → Obj → List (Nat × Obj) → Prop
 | [], _, _, _, _ => False
 | p :: L, b, o, o', L' => (p = (b, o) ∧ L' = (b, o') :: L) ∨ ∃ L'', xBq L b o o' L'' ∧ L' = p :: L''
theorem xBq.head {b : Nat} {o o' : Obj} {L : List (Nat × Obj)} : xBq ((b, o) :: L) b o o' ((b, o') :: L) := .inl ⟨rfl, rfl⟩
theorem xBq.tail {b : Nat} {o o' : Obj} {p : Nat × Obj} {L L' : List (Nat × Obj)} (h : xBq L b o o' L') : xBq (p :: L) b o o' (p :: L') := .inr ⟨_, h, rfl⟩
theorem xBq.spec {b : Nat} {o o' : Obj} : ∀ {L L' : List (Nat × Obj)}, xBq L b o o' L' → (b, o) ∈ L ∧ L'.map (·.1) = L.map (·.1) ∧ ∀ p, p ∈ L' → p = (b, o') ∨ p ∈ L
  | [], _, h => h.elim
  | q :: L, L', h => by
    rcases h with ⟨rfl, rfl⟩ | ⟨L'', h, rfl⟩
    · exact ⟨.head _, rfl, fun p hp => by
        rcases List.mem_cons.1 hp with rfl | hp
        · exact .inl rfl
        · exact .inr (.tail _ hp)⟩
    · obtain ⟨h1, h2, h3⟩ := h.spec
      exact ⟨.tail _ h1, by simp [h2], fun p hp => by
        rcases List.mem_cons.1 hp with rfl | hp
        · exact .inr (.head _)
        · rcases h3 p hp with h | h
          · exact .inl h
          · exact .inr (.tail _ h)⟩
theorem xBq.other {b : Nat} {o o' : Obj} : ∀ {L L' : List (Nat × Obj)}, xBq L b o o' L' → (L.map (·.1)).Nodup → ∀ p, p ∈ L' → p = (b, o') ∨ (p ∈ L ∧ p.1 ≠ b)
  | [], _, h, _ => h.elim
  | q :: L, L', h, hn => by
    simp only [List.map_cons, List.nodup_cons] at hn
    intro p hp
    rcases h with ⟨rfl, rfl⟩ | ⟨L'', h, rfl⟩
    · rcases List.mem_cons.1 hp with rfl | hp
      · exact .inl rfl
      · exact .inr ⟨.tail _ hp, fun e => hn.1 (List.mem_map.2 ⟨p, hp, e⟩)⟩
    · rcases List.mem_cons.1 hp with rfl | hp
      · refine .inr ⟨.head _, fun e => hn.1 ?_⟩
        rw [e]
        exact List.mem_map.2 ⟨(b, o), h.spec.1, rfl⟩
      · rcases h.other hn.2 p hp with h' | ⟨h1, h2⟩
        · exact .inl h'
        · exact .inr ⟨.tail _ h1, h2⟩
namespace Rep
variable {B0 : Nat} {w0 w w' : World} {L L' : List (Nat × Obj)}
theorem init (w : World) : Rep w.heap.size w [] w := ⟨Below.refl _ _, Nat.le_refl _, fun _ h => (nomatch h), List.nodup_nil⟩
theorem drew (h : Rep B0 w0 L w) : Rep B0 w0 L w.drew := ⟨h.below.drew, h.le, h.own, h.uniq⟩
theorem lt (h : Rep B0 w0 L w) {p : Nat × Obj} (hp : p ∈ L) : p.1 < w.heap.size := (Array.getElem?_eq_some_iff.1 (h.own p hp).2).1
theorem call (h : Rep B0 w0 L w) (hb : Below w.heap.size w w') : Rep B0 w0 L w' :=
 ⟨h.below.trans (hb.mono h.le), Nat.le_trans h.le hb.size, fun p hp => ⟨(h.own p hp).1, by rw [hb.block p.1 (h.lt hp)]; exact (h.own p hp).2⟩, h.uniq⟩
theorem alloc (h : Rep B0 w0 L w) (o : Obj) : Rep B0 w0 ((w.heap.size, o) :: L) (w.alloc o) :=
by
 refine ⟨h.below.alloc h.le o, by have := h.le; simp; omega, fun p hp => ?_, ?_⟩
 ·rcases List.mem_cons.1 hp with rfl | hp
  ·exact ⟨h.le, by show (w.heap.push o)[w.heap.size]? = some o; simp⟩
  ·exact ⟨(h.own p hp).1, by rw [Below.heap_alloc w o p.1 (h.lt hp)]; exact (h.own p hp).2⟩
 ·simp only [List.map_cons, List.nodup_cons]
  refine ⟨fun hm => ?_, h.uniq⟩
  obtain ⟨p, hp, e⟩ := List.mem_map.1 hm
  have := h.lt hp
  omega
theorem put (h : Rep B0 w0 L w) {b : Nat} {o o' : Obj} (hs : xBq L b o o' L') (hb : w'.heap[b]? = some o') (hk : ∀ k, k ≠ b → w'.heap[k]? = w.heap[k]?)
  (h1 : w'.os = w.os) (h2 : w'.tape = w.tape) (h3 : w'.output = w.output) (h4 : w'.heap.size = w.heap.size) : Rep B0 w0 L' w' := by
 have hB := (h.own _ hs.spec.1).1
 refine ⟨h.below.trans ⟨h1, h2, h3, by omega, fun k hk' => hk k (by simp at hB; omega)⟩, by rw [h4]; exact h.le, fun p hp => ?_, by rw [hs.spec.2.1]; exact h.uniq⟩
 rcases hs.other h.uniq p hp with rfl | ⟨h5, h6⟩
 ·exact ⟨hB, hb⟩
 ·exact ⟨(h.own p h5).1, by rw [hk p.1 h6]; exact (h.own p h5).2⟩
theorem weaken (h : Rep B0 w0 L w) (hs : L'.Sublist L) : Rep B0 w0 L' w :=
 ⟨h.below, h.le, fun p hp => h.own p (hs.subset hp), h.uniq.sublist (hs.map _)⟩
end Rep
class RowT (P : Program) (ty : TypeId) (n : outParam Nat) : Prop where
 is : ∃ d, P.underlying ty = some d ∧ d.isRow = true ∧ (P.info? ty).map (·.size) = some n
class xDp (P : Program) (ty : TypeId) : Prop where
 is : ∃ d, P.underlying ty = some d ∧ d.isRow = false ∧ (P.info? ty).map (·.size) = some 1
class xKf (P : Program) (ty : TypeId) (l : outParam (List Value)) : Prop where
 is : ∃ z, ((P.info? ty).bind (·.zero)) = some z ∧ z.cells = l.toArray
theorem RowT.mk' {P : Program} {ty : TypeId} {n : Nat} (h1 : (match P.underlying ty with | some d => d.isRow | none => false) = true) (h2 : (P.info? ty).map (·.size) = some n) : RowT P ty n := by
 cases hu : P.underlying ty with
 | none => rw [hu] at h1; cases h1
 | some d => rw [hu] at h1; exact ⟨d, hu, h1, h2⟩
theorem xDp.mk' {P : Program} {ty : TypeId} (h1 : (match P.underlying ty with | some d => !d.isRow | none => false) = true) (h2 : (P.info? ty).map (·.size) = some 1) : xDp P ty := by
 cases hu : P.underlying ty with
 | none => rw [hu] at h1; cases h1
 | some d => rw [hu] at h1; exact ⟨d, hu, by simpa using h1, h2⟩
def ev (a : Act) : Operand → Option Value
 | .tmp t => a.tmps.toList[t]?
 | .const v => some v
 | .global g => some (.pointer (some ⟨g, 0, none⟩))
 | .func f => some (.func (.func f) #[] #[])
theorem xAw {a : Act} {x : Operand} {v : Value} (h : ev a x = some v) : a.eval x = v := by
 cases x with
 | tmp t =>
  have h' : a.tmps[t]? = some v := by simpa [ev] using h
  simp [Act.eval, h']
 | const v => exact Option.some.inj h
 | global g => exact Option.some.inj h
 | func f => exact Option.some.inj h
def evL (a : Act) : List Operand → Option (List Value)
  | [] => some []
  | x :: r => match ev a x, evL a r with
    | some v, some vs => some (v :: vs)
    | _, _ => none
theorem xCy {a : Act} : ∀ {l : List Operand} {vs : List Value}, evL a l = some vs → l.toArray.map a.eval = vs.toArray
  | [], vs, h => by obtain rfl := Option.some.inj h; simp
  | x :: r, vs, h => by
    unfold evL at h
    split at h
    · rename_i v ws hx hr
      obtain rfl := Option.some.inj h
      have := xCy hr
      simp only [List.map_toArray, List.map_cons, xAw hx] at this ⊢
      simpa using this
    · cases h
def evO (a : Act) : Option Operand → Option (Option Value)
 | none => some none
 | some x => match ev a x with | some v => some (some v) | none => none
theorem evO_eval {a : Act} {x : Option Operand} {v : Option Value} (h : evO a x = some v) : x.map a.eval = v := by
 cases x with
 | none => exact Option.some.inj h
 | some x =>
  cases hx : ev a x with
  | none => simp [evO, hx] at h
  | some u =>
   have : some u = v := by simpa [evO, hx] using h
   rw [← this, ← xAw hx]
   rfl
section laws
variable {P : Program} {B0 : Nat} {w0 w : World} {L : List (Nat × Obj)}
theorem Rep.rangeAt (h : Rep B0 w0 L w) {b off n : Nat} {l vs : List Value} {t : TypeId} (hm : (b, Obj.cells l.toArray t) ∈ L) (hv : (l.drop off).take n = vs) : w.rangeAt b off vs := fun j v hj => by
 subst hv
 simp only [World.cell?, (h.own _ hm).2, Option.isSome_none, Bool.false_eq_true, if_false]
 rw [List.getElem?_take] at hj
 split at hj
 ·rw [List.getElem?_drop] at hj
  simpa using hj
 ·cases hj
theorem Rep.cell (h : Rep B0 w0 L w) {b off : Nat} {l : List Value} {v : Value} {t : TypeId} (hm : (b, Obj.cells l.toArray t) ∈ L) (hv : l[off]? = some v) : w.cell? ⟨b, off, none⟩ = some v := by
 simp only [World.cell?, (h.own _ hm).2, Option.isSome_none, Bool.false_eq_true, if_false]
 simpa using hv
theorem Rep.thaw (h : Rep B0 w0 L w) {b : Nat} {c : Array Value} {t : TypeId} (hm : (b, Obj.cells c t) ∈ L) (a : Addr) (ha : a.block = b) : w.frozen? a = false := by
 subst ha
 simp only [World.frozen?, (h.own _ hm).2]
 simp
theorem Rep.loadRow (h : Rep B0 w0 L w) {ty : TypeId} {n : Nat} [hT : RowT P ty n] {b off : Nat} {l vs : List Value} {t : TypeId} (hm : (b, Obj.cells l.toArray t) ∈ L) (hv : (l.drop off).take n = vs) (hn : vs.length = n) :
  (loadVar ty ⟨b, off, none⟩).run P w = .ok (.agg vs.toArray) w := by
 obtain ⟨d, hu, hd, hi⟩ := hT.is
 exact run_loadVar_mid w b off ty vs d (h.rangeAt hm hv) hu hd (by rw [hi, hn])
theorem Rep.loadAll (h : Rep B0 w0 L w) {ty : TypeId} {n : Nat} [hT : RowT P ty n] {b : Nat} {l : List Value} {t : TypeId} (hm : (b, Obj.cells l.toArray t) ∈ L) (hn : l.length = n) :
  (loadVar ty ⟨b, 0, none⟩).run P w = .ok (.agg l.toArray) w := h.loadRow hm (by simp [← hn]) hn
theorem Rep.loadCell (h : Rep B0 w0 L w) {ty : TypeId} [hT : xDp P ty] {b off : Nat} {l : List Value} {v : Value} {t : TypeId} (hm : (b, Obj.cells l.toArray t) ∈ L) (hv : l[off]? = some v) :
  (loadVar ty ⟨b, off, none⟩).run P w = .ok v w := by
 obtain ⟨d, hu, hd, hi⟩ := hT.is
 have hagg : (isAgg ty).run P w = .ok false w := by
  unfold isAgg
  rw [Sem.run_bind, run_underlying hu w]
  cases d <;> simp_all
 have hl : (load ⟨b, off, none⟩).run P w = .ok v w := by
  simp only [load, Sem.run, h.cell hm hv]
 unfold loadVar
 rw [Sem.run_bind, hagg]
 simp only [Result.andThen_ok, Bool.false_eq_true, if_false]
 exact hl
theorem xHg (b : Nat) : ∀ (vs : List Value) (o : Nat) (w : World) (l : List Value) (t : TypeId), w.heap[b]? = some (.cells l.toArray t) → o + vs.length ≤ l.length →
    (w.setCells b o vs).heap[b]? = some (.cells (l.take o ++ vs ++ l.drop (o + vs.length)).toArray t) ∧ (∀ k, k ≠ b → (w.setCells b o vs).heap[k]? = w.heap[k]?) ∧ (w.setCells b o vs).os = w.os ∧ (w.setCells b o vs).tape = w.tape ∧
      (w.setCells b o vs).output = w.output ∧ (w.setCells b o vs).heap.size = w.heap.size
  | [], o, w, l, t, h, hl => by
    refine ⟨?_, fun _ _ => rfl, rfl, rfl, rfl, rfl⟩
    simp only [World.setCells, List.append_nil, List.length_nil, Nat.add_zero, List.take_append_drop]
    exact h
  | v :: vs, o, w, l, t, h, hl => by
    rw [World.setCells]
    simp only [List.length_cons] at hl
    have h1 : (w.setCell ⟨b, o, none⟩ v).heap[b]? = some (.cells (l.set o v).toArray t) := by
      simp [World.setCell, Array.getElem?_modify, h]
    obtain ⟨a1, a2, a3, a4, a5, a6⟩ := xHg b vs (o + 1) (w.setCell ⟨b, o, none⟩ v) (l.set o v) t h1 (by simp; omega)
    refine ⟨?_, fun k hk => ?_, a3, a4, a5, by rw [a6]; simp⟩
    · rw [a1]
      congr 3
      simp only [List.length_cons]
      rw [List.drop_set_of_lt (by omega), show o + 1 + vs.length = o + (vs.length + 1) by omega]
      congr 1
      rw [List.take_set, List.take_succ_eq_append_getElem (by omega), List.set_append]
      simp only [List.length_take]
      rw [if_neg (by omega), show o - min o l.length = 0 by omega]
      simp
    · rw [a2 k hk]
      exact Below.heap_setCell _ _ _ _ hk
theorem Rep.storeCells (h : Rep B0 w0 L w) {L' : List (Nat × Obj)} {b off : Nat} {l l' vs : List Value} {t : TypeId} (hs : xBq L b (.cells l.toArray t) (.cells l'.toArray t) L') (hn : off + vs.length ≤ l.length) (hl : l.take off ++ vs ++ l.drop (off + vs.length) = l') :
  Rep B0 w0 L' (w.setCells b off vs) ∧ w.there b off vs.length := by
 obtain ⟨a1, a2, a3, a4, a5, a6⟩ := xHg b vs off w l t (h.own _ hs.spec.1).2 hn
 subst hl
 refine ⟨h.put hs a1 a2 a3 a4 a5 a6, fun j hj => ⟨?_, h.thaw hs.spec.1 _ rfl⟩⟩
 have : w.cell? ⟨b, off + j, none⟩ = l[off + j]? := by
  simp only [World.cell?, (h.own _ hs.spec.1).2, Option.isSome_none, Bool.false_eq_true, if_false]
  simp
 rw [this, List.getElem?_eq_getElem (by omega)]
 rfl
theorem Rep.storeRow (h : Rep B0 w0 L w) {L' : List (Nat × Obj)} {ty : TypeId} {n : Nat} [hT : RowT P ty n] {b off : Nat} {l l' vs : List Value} {t : TypeId} (h1 : vs.all (·.oneCell') = true) (hvn : vs.length = n)
  (hs : xBq L b (.cells l.toArray t) (.cells l'.toArray t) L') (hn : off + n ≤ l.length) (hl : l.take off ++ vs ++ l.drop (off + n) = l') :
  ∃ w', (storeVar ty ⟨b, off, none⟩ (.agg vs.toArray)).run P w = .ok () w' ∧ Rep B0 w0 L' w' := by
 obtain ⟨d, hu, hd, hi⟩ := hT.is
 subst hvn
 obtain ⟨a1, a2⟩ := h.storeCells hs hn hl
 exact ⟨_, run_storeVar_mid w b off ty vs.toArray (by simpa using a2) (by simp [hi]) (by simpa using h1), by simpa using a1⟩
theorem Rep.storeCell (h : Rep B0 w0 L w) {L' : List (Nat × Obj)} {ty : TypeId} [hT : xDp P ty] {b off : Nat} {l l' : List Value} {v : Value} {t : TypeId} (h1 : v.oneCell' = true)
  (hs : xBq L b (.cells l.toArray t) (.cells l'.toArray t) L') (hn : off < l.length) (hl : l.set off v = l') :
  ∃ w', (storeVar ty ⟨b, off, none⟩ v).run P w = .ok () w' ∧ Rep B0 w0 L' w' := by
 obtain ⟨d, hu, hd, hi⟩ := hT.is
 obtain ⟨a1, a2⟩ := h.storeCells (vs := [v]) (off := off) hs (by simp; omega) (by
  rw [← hl]
  simp only [List.length_cons, List.length_nil, List.append_assoc, List.cons_append, List.nil_append, Nat.zero_add]
  rw [List.set_eq_take_append_cons_drop, if_pos hn])
 have hc : v.cells = #[v] := by cases v <;> first | rfl | cases h1
 have := run_storeCells_cells (P := P) b off [v] 0 w (fun j hj => by simpa using (a2 j hj).1) (fun j hj => by simpa using (a2 j hj).2) (by simpa using h1)
 cases hq : P.info? ty with
 | none => simp [hq] at hi
 | some i =>
  have hs1 : i.size = 1 := by simpa [hq] using hi
  refine ⟨_, ?_, a1⟩
  simp only [Nat.add_zero] at this
  simp [storeVar, sizeOf, typeInfo, hq, hc, hs1, this]
end laws
section lists
variable {P : Program} {ops : Array Oper} {rest : List Oper} {o : Oper} {a : Act} {w w0 : World} {Q : Exit → Act → World → Prop} {B0 : Nat} {L L' : List (Nat × Obj)}
theorem wpList_loadRow (hR : Rep B0 w0 L w) (hg : o.guard = none) {ty : TypeId} {x : Operand} (ho : o.op = .load ty x) {n : Nat} {b off : Nat} (hx : a.eval x = .pointer (some ⟨b, off, none⟩)) (hT : RowT P ty n) {l vs : List Value} {t : TypeId}
  (hm : (b, Obj.cells l.toArray t) ∈ L) (hv : (l.drop off).take n = vs) (hn : vs.length = n) (h : wpList P ops Q rest (a.put o.dst (.agg vs.toArray)) w) : wpList P ops Q (o :: rest) a w :=
 wpList_plain hg fun _ hK => by
  unfold Oper.wp execOp
  simp only [ho, hx, Instr.loadAt, Instr.sureAddr, Sem.run_bind, Sem.run_pure, Result.andThen_ok, hR.loadRow (P := P) (ty := ty) hm hv hn]
  exact hK _ _ h
theorem wpList_loadAll (hR : Rep B0 w0 L w) (hg : o.guard = none) {ty : TypeId} {x : Operand} (ho : o.op = .load ty x) {n : Nat} {b : Nat} (hx : a.eval x = .pointer (some ⟨b, 0, none⟩)) (hT : RowT P ty n) {l : List Value} {t : TypeId}
  (hm : (b, Obj.cells l.toArray t) ∈ L) (hn : l.length = n) (h : wpList P ops Q rest (a.put o.dst (.agg l.toArray)) w) : wpList P ops Q (o :: rest) a w :=
 wpList_loadRow hR hg ho hx hT hm (by simp [← hn]) hn h
theorem xAb (hR : Rep B0 w0 L w) (hg : o.guard = none) {ty : TypeId} {x : Operand} (ho : o.op = .load ty x) {b off : Nat} (hx : a.eval x = .pointer (some ⟨b, off, none⟩)) (hT : xDp P ty) {l : List Value} {v : Value} {t : TypeId}
  (hm : (b, Obj.cells l.toArray t) ∈ L) (hv : l[off]? = some v) (h : wpList P ops Q rest (a.put o.dst v) w) : wpList P ops Q (o :: rest) a w :=
 wpList_plain hg fun _ hK => by
  unfold Oper.wp execOp
  simp only [ho, hx, Instr.loadAt, Instr.sureAddr, Sem.run_bind, Sem.run_pure, Result.andThen_ok, hR.loadCell (P := P) (ty := ty) hm hv]
  exact hK _ _ h
theorem xJi (hR : Rep B0 w0 L w) (hg : o.guard = none) {ty : TypeId} {x y : Operand} (ho : o.op = .store ty x y) {n : Nat} {b off : Nat} (hx : a.eval x = .pointer (some ⟨b, off, none⟩)) (hT : RowT P ty n) {l l' vs : List Value} {t : TypeId}
  (hy : a.eval y = .agg vs.toArray) (h1 : vs.all (·.oneCell') = true) (hvn : vs.length = n) (hs : xBq L b (.cells l.toArray t) (.cells l'.toArray t) L') (hn : off + n ≤ l.length) (hl : l.take off ++ vs ++ l.drop (off + n) = l')
  (h : ∀ w', Rep B0 w0 L' w' → wpList P ops Q rest (a.put o.dst undef) w') : wpList P ops Q (o :: rest) a w :=
 wpList_plain hg fun _ hK => by
  obtain ⟨w', e, hR'⟩ := hR.storeRow (P := P) (ty := ty) h1 hvn hs hn hl
  unfold Oper.wp execOp
  simp only [ho, hx, hy, Instr.storeAt, Instr.sureAddr, Sem.run_bind, Sem.run_pure, Result.andThen_ok, e]
  exact hK _ _ (h w' hR')
theorem wpList_storeAll (hR : Rep B0 w0 L w) (hg : o.guard = none) {ty : TypeId} {x y : Operand} (ho : o.op = .store ty x y) {n : Nat} {b : Nat} (hx : a.eval x = .pointer (some ⟨b, 0, none⟩)) (hT : RowT P ty n) {l vs : List Value} {t : TypeId}
  (hy : a.eval y = .agg vs.toArray) (hs : xBq L b (.cells l.toArray t) (.cells vs.toArray t) L') (h1 : vs.all (·.oneCell') = true) (hvn : vs.length = n) (hn : l.length = n)
  (h : ∀ w', Rep B0 w0 L' w' → wpList P ops Q rest (a.put o.dst undef) w') : wpList P ops Q (o :: rest) a w :=
 xJi hR hg ho hx hT hy h1 hvn hs (by omega) (by simp [← hn]) h
theorem wpList_storeCell (hR : Rep B0 w0 L w) (hg : o.guard = none) {ty : TypeId} {x y : Operand} (ho : o.op = .store ty x y) {b off : Nat} (hx : a.eval x = .pointer (some ⟨b, off, none⟩)) (hT : xDp P ty) {l l' : List Value} {v : Value} {t : TypeId}
  (hy' : ev a y = some v) (h1 : v.oneCell' = true) (hs : xBq L b (.cells l.toArray t) (.cells l'.toArray t) L') (hn : off < l.length) (hl : l.set off v = l')
  (h : ∀ w', Rep B0 w0 L' w' → wpList P ops Q rest (a.put o.dst undef) w') : wpList P ops Q (o :: rest) a w :=
 wpList_plain hg fun _ hK => by
  have hy := xAw hy'
  obtain ⟨w', e, hR'⟩ := hR.storeCell (P := P) (ty := ty) h1 hs hn hl
  unfold Oper.wp execOp
  simp only [ho, hx, hy, Instr.storeAt, Instr.sureAddr, Sem.run_bind, Sem.run_pure, Result.andThen_ok, e]
  exact hK _ _ (h w' hR')
theorem wpList_allocRep (hR : Rep B0 w0 L w) (hg : o.guard = none) {ty : TypeId} (ho : o.op = .alloc ty) {l : List Value} (hz : xKf P ty l)
  (h : ∀ b w', Rep B0 w0 ((b, .cells l.toArray ty) :: L) w' → wpList P ops Q rest (a.put o.dst (.pointer (some ⟨b, 0, none⟩))) w') : wpList P ops Q (o :: rest) a w :=
 wpList_plain hg fun _ hK => by
  obtain ⟨z, h1, h2⟩ := hz.is
  have hzv : (zeroValue ty).run P w = .ok z w := by
   cases hq : P.info? ty with
   | none => simp [hq] at h1
   | some i =>
    have : i.zero = some z := by simpa [hq] using h1
    simp [zeroValue, typeInfo, hq, this]
  have e : (Instr.alloc ty true (.tuple #[])).run P w = .ok (.pointer (some ⟨w.heap.size, 0, none⟩)) (w.alloc (.cells l.toArray ty)) := by
   simp only [Instr.alloc, Sem.run_bind, hzv, Result.andThen_ok, newVar, newRow, h2, newObj]
   rfl
  unfold Oper.wp execOp
  simp only [ho, Sem.run_bind, e, Result.andThen_ok, Sem.run_pure]
  exact hK _ _ (h _ _ (hR.alloc _))
theorem xBx (hR : Rep B0 w0 L w) (hg : o.guard = none) {ty : TypeId} {x : Operand} (ho : o.op = .box ty x) {l : List Value} (hx : (a.eval x).cells = l.toArray)
  (h : ∀ b w', Rep B0 w0 ((b, .cells l.toArray ty) :: L) w' → wpList P ops Q rest (a.put o.dst (.pointer (some ⟨b, 0, none⟩))) w') : wpList P ops Q (o :: rest) a w :=
 wpList_plain hg fun _ hK => by
  have e : (Instr.box ty (a.eval x)).run P w = .ok (.pointer (some ⟨w.heap.size, 0, none⟩)) (w.alloc (.cells l.toArray ty)) := by
   simp only [Instr.box, newVar, newRow, hx, newObj]
   rfl
  unfold Oper.wp execOp
  simp only [ho, Sem.run_bind, e, Result.andThen_ok, Sem.run_pure]
  exact hK _ _ (h _ _ (hR.alloc _))
end lists
theorem kA {α : Type u} {x y : α} {l : List α} : (x :: l).set 0 y = y :: l := rfl
theorem kB {α : Type u} {x y : α} {l : List α} {n : Nat} : (x :: l).set (n + 1) y = x :: l.set n y := rfl
theorem kC {α : Type u} {x : α} {l : List α} {n : Nat} : (x :: l).drop (n + 1) = l.drop n := rfl
theorem kD {α : Type u} {l : List α} : l.drop 0 = l := rfl
theorem kE {α : Type u} {x : α} {l : List α} {n : Nat} : (x :: l).take (n + 1) = x :: l.take n := rfl
theorem kF {α : Type u} {l : List α} : l.take 0 = [] := rfl
theorem kP {l : List Value} {d : List Deferred} {t : Tmp} {v : Value} : Act.put ⟨l.toArray, d⟩ (some t) v = ⟨(l.set t v).toArray, d⟩ := by simp [Act.put]
theorem kQ {a : Act} {v : Value} : Act.put a none v = a := rfl
end
section
section
variable {P : Program} {ops : Array Oper}
def uponTo (P : Program) (C : World → Prop) (v : Value) : Result Next → Prop
 | .ok (.value u) w' => u = v ∧ C w'
 | .ok .skip w' => v = undef ∧ C w'
 | .ok (.enter f args) w' => Calls P f args w' fun e w'' => e = .returned v ∧ C w''
 | _ => False
def quietTo (P : Program) (o : Oper) (a : Act) (C C' : World → Prop) (v : Value) : Prop := ∀ w, C w → uponTo P C' v ((execOp a.eval o).run P w)
def xBa (P : Program) (ops : Array Oper) (o : Oper) (v : Value) (a : Act) (C C' : World → Prop) : Prop :=
 (Region.wanted o (yielded ops a.tmps) = true ∧ quietTo P o a C C' v) ∨ (Region.wanted o (yielded ops a.tmps) = false ∧ v = undef ∧ ∀ w, C w → C' w)
theorem xBa.wpOp {i : Nat} {o : Oper} {v : Value} {a : Act} {C C' : World → Prop} {Q : Exit → Act → World → Prop} {K : Act → World → Prop} {w : World} (hi : ops[i]? = some o) (hy : xBa P ops o v a C C') (hw : C w) (h : ∀ w', C' w' → K (a.put o.dst v) w') : wpOp P ops Q i K a w := by
 unfold Go.wpOp
 simp only [hi]
 rcases hy with ⟨h1, h2⟩ | ⟨h1, rfl, h2⟩
 ·rw [if_pos h1]
  refine .inl ?_
  have h3 := h2 w hw
  unfold Oper.wp
  generalize (execOp a.eval o).run P w = r at *
  cases r with
  | ok n w' =>
   cases n <;> simp only [uponTo] at h3 <;> simp only [Oper.upon]
   case value u => obtain ⟨rfl, h3⟩ := h3; exact h _ h3
   case skip => obtain ⟨rfl, h3⟩ := h3; exact h _ h3
   case enter f args => exact h3.mono fun e w'' ⟨he, hc⟩ => by subst he; exact h _ hc
  | halt x w' => exact h3.elim
 ·rw [if_neg (by rw [h1]; exact Bool.false_ne_true)]
  exact h _ (h2 w hw)
theorem xBa.of_put {o : Oper} {v u : Value} {a : Act} {d : Option Tmp} {C C' : World → Prop} (hs : ∀ cs b, o.op ≠ .select cs b) (hd : ∀ t, d = some t → t ∉ o.looksAt ops) : xBa P ops o v (a.put d u) C C' ↔ xBa P ops o v a C C' := by
 unfold xBa quietTo
 rw [wanted_put o a d u hd, execOp_put o hs a d u hd]
def cnt (tl : List Nat) (listed : Array Bool) : Nat := tl.countP fun t => listed.getD t false
theorem cnt_set {tl : List Nat} {listed : Array Bool} {i : Nat} (h : i ∉ tl) : cnt tl (listed.setIfInBounds i true) = cnt tl listed := by
 unfold cnt
 refine List.countP_congr fun t ht => ?_
 rw [getD_set_ne false (fun e => h (by rw [e]; exact ht))]
def wpAnyK (P : Program) (ops : Array Oper) (tl : List Nat) (C : Nat → World → Prop) (Q : Nat → Act → Prop) : Nat → Array Bool → Act → Prop
  | 0, listed, a => Region.ready .any ops listed = [] ∧ Q (cnt tl listed) a
  | f + 1, listed, a => (Region.ready .any ops listed = [] → Q (cnt tl listed) a) ∧ ∀ i ∈ Region.ready .any ops listed, ∃ o v, ops[i]? = some o ∧
      xBa P ops o v a (C (cnt tl listed)) (C (cnt tl (listed.setIfInBounds i true))) ∧ wpAnyK P ops tl C Q f (listed.setIfInBounds i true) (a.put o.dst v)
theorem wpAny_of_K {tl : List Nat} {C : Nat → World → Prop} {Q : Nat → Act → Prop} {Q' : Exit → Act → World → Prop} (hQ : ∀ k a w, C k w → Q k a → Q' .normal a w) :
    ∀ (f : Nat) (listed : Array Bool) (a : Act) (w : World), C (cnt tl listed) w → wpAnyK P ops tl C Q f listed a → wpAny P .any ops Q' f listed a w
  | 0, _, _, _, hw, h => ⟨h.1, hQ _ _ _ hw h.2⟩
  | f + 1, listed, a, w, hw, h => ⟨fun h0 => hQ _ _ _ hw (h.1 h0), fun i hi => by
      obtain ⟨o, v, ho, hy, hn⟩ := h.2 i hi
      exact hy.wpOp ho hw fun w' hw' => wpAny_of_K hQ f _ _ w' hw' hn⟩
def xFi (ops : Array Oper) (listed : Array Bool) : Prop := listed.size = ops.size ∧ ∀ j oj, ops[j]? = some oj → listed.getD j false = true → ∀ e ∈ oj.after, Region.binds .any e = true → listed.getD e.on false = true
theorem xFi.set {listed : Array Bool} {i : Nat} (h : xFi ops listed) (hi : i ∈ Region.ready .any ops listed) : xFi ops (listed.setIfInBounds i true) := by
 obtain ⟨_, oi, hoi, hall⟩ := mem_ready.1 hi
 refine ⟨by simp [h.1], fun j oj hj hl e he hb => ?_⟩
 by_cases hij : i = j
 ·subst hij
  obtain rfl : oj = oi := Option.some.inj (hj.symm.trans hoi)
  exact getD_set_true (hall e he hb)
 ·rw [getD_set_ne false hij] at hl
  exact getD_set_true (h.2 j oj hj hl e he hb)
theorem wpAnyK_first {tl : List Nat} {C : Nat → World → Prop} {Q : Nat → Act → Prop} {i : Nat} {oi : Oper} {v : Value} {al : Nat → Prop} (hi : ops[i]? = some oi) (hit : i ∉ tl) (hs : ∀ (j : Nat) (o : Oper) cs b, ops[j]? = some o → o.op ≠ .select cs b)
  (hal : ∀ ls, xFi ops ls → ls.getD i true = false → al (cnt tl ls)) : ∀ (fuel : Nat) (listed : Array Bool) (a : Act), xFi ops listed →
   (∀ j oj, ops[j]? = some oj → j ≠ i → listed.getD j true = false → (∀ e ∈ oj.after, Region.binds .any e = true → e.on ≠ i) → oi.apart ops oj = true) →
   i ∈ Region.ready .any ops listed → (∀ k, al k → xBa P ops oi v a (C k) (C k)) → wpAnyK P ops tl C Q fuel (listed.setIfInBounds i true) (a.put oi.dst v) → wpAnyK P ops tl C Q (fuel + 1) listed a := by
 intro fuel
 induction fuel with
 | zero =>
  intro listed a hc _ hr hy H
  refine ⟨fun h0 => (by rw [h0] at hr; cases hr), fun j hj => ?_⟩
  by_cases hji : j = i
  ·subst hji
   exact ⟨oi, v, hi, by rw [cnt_set hit]; exact hy _ (hal _ hc (mem_ready.1 hr).1), H⟩
  ·have := ready_mono hj hji
   rw [H.1] at this
   cases this
 | succ fuel ih =>
  intro listed a hc hfree hr hy H
  refine ⟨fun h0 => (by rw [h0] at hr; cases hr), fun j hj => ?_⟩
  by_cases hji : j = i
  ·subst hji
   exact ⟨oi, v, hi, by rw [cnt_set hit]; exact hy _ (hal _ hc (mem_ready.1 hr).1), H⟩
  ·obtain ⟨oj, u, hoj, hyj, Hj⟩ := H.2 j (ready_mono hj hji)
   obtain ⟨hjun, oj', hoj', hall⟩ := mem_ready.1 hj
   obtain rfl : oj = oj' := Option.some.inj (hoj.symm.trans hoj')
   have hnot : ∀ e ∈ oj.after, Region.binds .any e = true → e.on ≠ i := fun e he hb heq => by
    have h1 := hall e he hb
    have h0 := (mem_ready.1 hr).1
    rw [heq] at h1
    rcases Nat.lt_or_ge i listed.size with h' | h'
    ·simp [h'] at h0 h1; rw [h0] at h1; cases h1
    ·simp [Array.getElem?_eq_none h'] at h1
   obtain ⟨p1, p2, p3⟩ := Oper.apart_spec (hfree j oj hoj hji hjun hnot)
   refine ⟨oj, u, hoj, ?_, ?_⟩
   ·rw [xBa.of_put (fun cs b => hs j oj cs b hoj) p1, cnt_set hit, Array.setIfInBounds_comm _ _ (Ne.symm hji), cnt_set hit] at hyj
    exact hyj
   ·refine ih (listed.setIfInBounds j true) (a.put oj.dst u) (hc.set hj) (fun k ok hk hki hun hno => ?_) (ready_mono hr (Ne.symm hji)) (fun k hk => (xBa.of_put (fun cs b => hs i oi cs b hi) p3).2 (hy k hk)) ?_
    ·refine hfree k ok hk hki ?_ hno
     by_cases hjk : j = k
     ·subst hjk; exact hjun
     ·rw [getD_set_ne true hjk] at hun; exact hun
    ·rw [Array.setIfInBounds_comm _ _ hji, ← Act.put_comm a v u p2]
     exact Hj
def ordB (ops : Array Oper) : List Nat → Array Bool → Bool
 | [], _ => true
 | i :: r, listed => (Region.ready .any ops listed).contains i && Region.free .any ops listed i && ordB ops r (listed.setIfInBounds i true)
def xCp (l : List Nat) (listed : Array Bool) : Array Bool := l.foldl (fun x i => x.setIfInBounds i true) listed
def seqB (ops : Array Oper) : List Nat → Array Bool → Bool
 | [], listed => (Region.ready .any ops listed).isEmpty
 | t :: r, listed => decide (Region.ready .any ops listed = [t]) && seqB ops r (listed.setIfInBounds t true)
def xJe (ops : Array Oper) (j i : Nat) : Bool := match ops[j]? with | some oj => oj.after.any fun e => Region.binds .any e && e.on == i | none => false
theorem xHd {j i : Nat} (h : xJe ops j i = true) : ∃ oj, ops[j]? = some oj ∧ ∃ e ∈ oj.after, Region.binds .any e = true ∧ e.on = i := by
 unfold xJe at h
 split at h
 ·rename_i oj hj
  obtain ⟨e, he, hb⟩ := Array.any_eq_true'.1 h
  simp only [Bool.and_eq_true, beq_iff_eq] at hb
  exact ⟨oj, hj, e, he, hb.1, hb.2⟩
 ·cases h
def sinkB (ops : Array Oper) (t : Nat) : List Nat → Bool
 | [] => true
 | i :: r => ((r ++ [t]).any fun j => xJe ops j i) && sinkB ops t r
def chainB (ops : Array Oper) : List Nat → Bool
 | [] => true
 | [_] => true
 | t :: u :: r => xJe ops u t && chainB ops (u :: r)
def xGi : List Nat → Bool
 | [] => true
 | t :: r => !r.contains t && xGi r
def ordOK (ops : Array Oper) (ord : List (Nat × Bool)) (tl : List Nat) : Bool :=
 Region.noSelect ops && ordB ops (ord.map (·.1)) (Array.replicate ops.size false) && seqB ops tl (xCp (ord.map (·.1)) (Array.replicate ops.size false)) &&
 (match tl with | [] => true | t :: _ => sinkB ops t ((ord.filter fun p => !p.2).map (·.1))) && chainB ops tl && xGi tl && tl.all (fun t => decide (t < ops.size) && !(ord.map (·.1)).contains t)
theorem xGw {listed : Array Bool} (h : xFi ops listed) : ∀ (tl : List Nat), chainB ops tl = true → ∀ t ∈ tl, listed.getD t false = true → ∀ t0, tl.head? = some t0 → listed.getD t0 false = true
  | [], _, _, ht, _, _, _ => nomatch ht
  | [u], _, t, ht, hl, t0, h0 => by
    obtain rfl : t = u := by simpa using ht
    obtain rfl : t = t0 := by simpa using h0
    exact hl
  | u :: v :: r, hc, t, ht, hl, t0, h0 => by
    simp only [chainB, Bool.and_eq_true] at hc
    obtain rfl : u = t0 := by simpa using h0
    rcases List.mem_cons.1 ht with rfl | ht
    · exact hl
    · have := xGw h (v :: r) hc.2 t ht hl v rfl
      obtain ⟨ov, hov, e, he, hb, rfl⟩ := xHd hc.1
      exact h.2 v ov hov this e he hb
theorem xGz {listed : Array Bool} {t : Nat} (h : xFi ops listed) (ht : listed.getD t false = true) : ∀ (l : List Nat), sinkB ops t l = true → ∀ i ∈ l, listed.getD i false = true
  | [], _, _, hi => nomatch hi
  | k :: r, hs, i, hi => by
    simp only [sinkB, Bool.and_eq_true] at hs
    have ih := xGz h ht r hs.2
    rcases List.mem_cons.1 hi with rfl | hi
    · obtain ⟨j, hj, hw⟩ := List.any_eq_true.1 hs.1
      obtain ⟨oj, hoj, e, he, hb, rfl⟩ := xHd hw
      refine h.2 j oj hoj ?_ e he hb
      rcases List.mem_append.1 hj with hj | hj
      · exact ih j hj
      · obtain rfl : j = t := by simpa using hj
        exact ht
    · exact ih i hi
def headW (P : Program) (ops : Array Oper) (I : (World → Prop) → Prop) (C : World → Prop) (K : Act → Prop) : List (Nat × Bool) → Act → Prop
 | [], a => K a
 | i :: r, a => ∃ o v, ops[i.1]? = some o ∧ (i.2 = true → ∀ C' : World → Prop, I C' → xBa P ops o v a C' C') ∧ (i.2 = false → xBa P ops o v a C C) ∧ headW P ops I C K r (a.put o.dst v)
def tailW (P : Program) (ops : Array Oper) (I : (World → Prop) → Prop) (Q : Exit → Act → World → Prop) : List Nat → (World → Prop) → Act → Prop
 | [], C, a => ∀ w, C w → Q .normal a w
 | t :: r, C, a => ∃ o v, ∃ C' : World → Prop, ops[t]? = some o ∧ xBa P ops o v a C C' ∧ I C' ∧ tailW P ops I Q r C' (a.put o.dst v)
def headK (P : Program) (ops : Array Oper) (C : Nat → World → Prop) (K : Act → Prop) : List (Nat × Bool) → Act → Prop
 | [], a => K a
 | i :: r, a => ∃ o v, ops[i.1]? = some o ∧ (∀ k, (i.2 = true ∨ k = 0) → xBa P ops o v a (C k) (C k)) ∧ headK P ops C K r (a.put o.dst v)
def tailK (P : Program) (ops : Array Oper) (C : Nat → World → Prop) (Q : Nat → Act → Prop) : List Nat → Nat → Act → Prop
 | [], k, a => Q k a
 | t :: r, k, a => ∃ o v, ops[t]? = some o ∧ xBa P ops o v a (C k) (C (k + 1)) ∧ tailK P ops C Q r (k + 1) (a.put o.dst v)
theorem headK_of {I : (World → Prop) → Prop} {C0 : World → Prop} {K : Act → Prop} : ∀ (ord : List (Nat × Bool)) (a : Act), headW P ops I C0 K ord a → ∃ aH, K aH ∧ ∀ C : Nat → World → Prop, C 0 = C0 → (∀ k, I (C k)) → headK P ops C (fun a' => a' = aH) ord a
  | [], a, h => ⟨a, h, fun _ _ _ => rfl⟩
  | i :: r, a, h => by
    obtain ⟨o, v, ho, h1, h2, hr⟩ := h
    obtain ⟨aH, hK, hC⟩ := headK_of r _ hr
    refine ⟨aH, hK, fun C h0 hI => ⟨o, v, ho, fun k hk => ?_, hC C h0 hI⟩⟩
    cases hf : i.2 with
    | true => exact h1 hf _ (hI k)
    | false =>
      rcases hk with hk | rfl
      · rw [hf] at hk; cases hk
      · rw [h0]; exact h2 hf
theorem xKb {C D : Nat → World → Prop} {Q Q' : Nat → Act → Prop} (hC : ∀ k, C (k + 1) = D k) (hQ : ∀ k a, Q k a → Q' (k + 1) a) : ∀ (r : List Nat) (k : Nat) (a : Act), tailK P ops D Q r k a → tailK P ops C Q' r (k + 1) a
  | [], k, a, h => hQ k a h
  | t :: r, k, a, h => by
    obtain ⟨o, v, ho, hy, hr⟩ := h
    exact ⟨o, v, ho, by rw [hC, hC]; exact hy, xKb hC hQ r (k + 1) _ hr⟩
theorem tailK_of {I : (World → Prop) → Prop} {Q : Exit → Act → World → Prop} : ∀ (tl : List Nat) (C0 : World → Prop) (a : Act), I C0 → tailW P ops I Q tl C0 a → ∃ C : Nat → World → Prop, C 0 = C0 ∧ (∀ k, I (C k)) ∧ tailK P ops C (fun k a' => ∀ w, C k w → Q .normal a' w) tl 0 a
  | [], C0, a, hI, h => ⟨fun _ => C0, rfl, fun _ => hI, h⟩
  | t :: r, C0, a, hI, h => by
    obtain ⟨o, v, C', ho, hy, hI', hr⟩ := h
    obtain ⟨D, hD, hID, hk⟩ := tailK_of r C' _ hI' hr
    refine ⟨fun k => match k with | 0 => C0 | k + 1 => D k, rfl, fun k => match k with | 0 => hI | k + 1 => hID k, o, v, ho, by rw [← hD] at hy; exact hy, ?_⟩
    exact xKb (fun _ => rfl) (fun k a' h' => h') r 0 _ hk
theorem xJq {tl : List Nat} {C : Nat → World → Prop} {Q : Nat → Act → Prop} : ∀ (r : List Nat) (k : Nat) (listed : Array Bool) (a : Act), r.Nodup → (∀ t ∈ r, t ∈ tl ∧ t < listed.size ∧ listed.getD t true = false) → tl.Nodup → cnt tl listed = k → seqB ops r listed = true → tailK P ops C Q r k a →
    wpAnyK P ops tl C Q r.length listed a
  | [], k, listed, a, _, _, _, hk, hB, h => ⟨by simpa [seqB] using hB, by rw [hk]; exact h⟩
  | t :: r, k, listed, a, hnd, hin, htl, hk, hB, h => by
    simp only [seqB, Bool.and_eq_true, decide_eq_true_eq] at hB
    obtain ⟨o, v, ho, hy, hr⟩ := h
    obtain ⟨ht1, ht2, ht3⟩ := hin t (.head _)
    have hcnt : cnt tl (listed.setIfInBounds t true) = k + 1 := by
      have : ∀ (l : List Nat), l.Nodup → t ∈ l → cnt l (listed.setIfInBounds t true) = cnt l listed + 1 := by
        intro l
        induction l with
        | nil => intro _ h; cases h
        | cons u l ih =>
          intro hnd hm
          obtain ⟨h1, h2⟩ := List.nodup_cons.1 hnd
          have hf : listed.getD t false = false := by simp [ht2] at ht3 ⊢; exact ht3
          by_cases hut : t = u
          · subst hut
            have e := cnt_set (tl := l) (listed := listed) h1
            unfold cnt at e ⊢
            rw [List.countP_cons_of_pos (by simp [ht2]), List.countP_cons_of_neg (by rw [hf]; exact Bool.false_ne_true), e]
          · have hm' : t ∈ l := by
              rcases List.mem_cons.1 hm with h | h
              · exact absurd h hut
              · exact h
            have := ih h2 hm'
            unfold cnt at this ⊢
            rw [List.countP_cons, List.countP_cons, this, getD_set_ne false hut]
            omega
      rw [this tl htl ht1, hk]
    refine ⟨fun h0 => (by rw [hB.1] at h0; cases h0), fun i hi => ?_⟩
    rw [hB.1] at hi
    obtain rfl : i = t := by simpa using hi
    refine ⟨o, v, ho, by rw [hk, hcnt]; exact hy, ?_⟩
    obtain ⟨h1, h2⟩ := List.nodup_cons.1 hnd
    refine xJq r (k + 1) _ _ h2 (fun s hs => ?_) htl hcnt hB.2 hr
    obtain ⟨q1, q2, q3⟩ := hin s (.tail _ hs)
    exact ⟨q1, by simpa using q2, by rw [getD_set_ne true (fun e => h1 (by rw [e]; exact hs))]; exact q3⟩
theorem xEt : ∀ (l : List Nat), xGi l = true → l.Nodup
  | [], _ => List.nodup_nil
  | t :: r, h => by
    simp only [xGi, Bool.and_eq_true, Bool.not_eq_true'] at h
    exact List.nodup_cons.2 ⟨by simpa using h.1, xEt r h.2⟩
theorem xIf (t : Nat) : ∀ (l : List Nat) (x : Array Bool), t ∉ l → (xCp l x).getD t true = x.getD t true
  | [], _, _ => rfl
  | k :: l, x, h => by
    show (xCp l (x.setIfInBounds k true)).getD t true = _
    rw [xIf t l _ (fun h' => h (.tail _ h')), getD_set_ne true (fun e => h (by rw [e]; exact .head _))]
theorem xHa : ∀ (l : List Nat) (x : Array Bool), (xCp l x).size = x.size
  | [], _ => rfl
  | k :: l, x => by
    show (xCp l (x.setIfInBounds k true)).size = _
    rw [xHa l]; simp
theorem xJj {tl : List Nat} {C : Nat → World → Prop} {Q : Nat → Act → Prop} {aH : Act} {n : Nat} (hsel : Region.noSelect ops = true) (full : List (Nat × Bool)) (hal : ∀ p ∈ full, p.2 = false → ∀ ls, xFi ops ls → ls.getD p.1 true = false → cnt tl ls = 0) :
    ∀ (ord : List (Nat × Bool)) (listed : Array Bool) (a : Act), (∀ p ∈ ord, p ∈ full ∧ p.1 ∉ tl) → xFi ops listed → ordB ops (ord.map (·.1)) listed = true → headK P ops C (fun a' => a' = aH) ord a →
      (∀ a', a' = aH → wpAnyK P ops tl C Q n (xCp (ord.map (·.1)) listed) a') → wpAnyK P ops tl C Q (ord.length + n) listed a
  | [], listed, a, _, _, _, h, hn => by rw [List.length_nil, Nat.zero_add]; exact hn a h
  | p :: r, listed, a, hin, hc, hB, h, hn => by
    obtain ⟨i, b⟩ := p
    simp only [List.map_cons, ordB, Bool.and_eq_true] at hB
    obtain ⟨⟨hr, hf⟩, hB'⟩ := hB
    obtain ⟨o, v, ho, hy, hK⟩ := h
    have hr' : i ∈ Region.ready .any ops listed := by simpa using hr
    obtain ⟨hif, hit⟩ := hin (i, b) (.head _)
    rw [List.length_cons, show r.length + 1 + n = (r.length + n) + 1 by omega]
    refine wpAnyK_first (al := fun k => b = true ∨ k = 0) ho hit (Region.noSelect_spec hsel) (fun ls hcl hun => ?_) (r.length + n) listed a hc (Region.free_spec ho hf) hr' hy
      (xJj hsel full hal r _ _ (fun j hj => hin j (.tail _ hj)) (hc.set hr') hB' hK hn)
    cases hfl : b with
    | true => exact .inl rfl
    | false => exact .inr (hal (i, b) hif hfl ls hcl hun)
theorem wpAny_ord {I : (World → Prop) → Prop} {Q : Exit → Act → World → Prop} {C0 : World → Prop} {a : Act} {w : World} (ord : List (Nat × Bool)) (tl : List Nat) (hB : ordOK ops ord tl = true) (hw : C0 w) (hI : I C0) (h : headW P ops I C0 (tailW P ops I Q tl C0) ord a) :
  wpAny P .any ops Q (ord.length + tl.length) (Array.replicate ops.size false) a w := by
 simp only [ordOK, Bool.and_eq_true] at hB
 obtain ⟨⟨⟨⟨⟨⟨h1, h2⟩, h3⟩, h4⟩, h5⟩, h6⟩, h7⟩ := hB
 have hnd := xEt tl h6
 have htl : ∀ t ∈ tl, t < ops.size ∧ t ∉ ord.map (·.1) := fun t ht => by
  have := List.all_eq_true.1 h7 t ht
  simp only [Bool.and_eq_true, decide_eq_true_eq, Bool.not_eq_true'] at this
  exact ⟨this.1, by simpa using this.2⟩
 obtain ⟨aH, hT, hH⟩ := headK_of ord a h
 obtain ⟨C, hC, hIC, hTK⟩ := tailK_of tl C0 aH hI hT
 have hcl0 : xFi ops (Array.replicate ops.size false) := ⟨by simp, fun j oj _ hl => by
  rcases Nat.lt_or_ge j ops.size with h' | h'
  ·simp [h'] at hl
  ·simp [h'] at hl⟩
 have cnt0 : ∀ ls : Array Bool, (∀ t ∈ tl, ls.getD t false ≠ true) → cnt tl ls = 0 := fun ls hls => List.countP_eq_zero.2 (fun t ht => by simpa using hls t ht)
 have hfull : ∀ ls, xFi ops ls → ∀ t ∈ tl, ls.getD t false = true → ∀ j ∈ ord, j.2 = false → ls.getD j.1 false = true := fun ls hcl t ht hl j hj hfj => by
  cases htl' : tl with
  | nil => rw [htl'] at ht; cases ht
  | cons t0 r =>
   have ht0 := xGw hcl tl h5 t ht hl t0 (by rw [htl']; rfl)
   rw [htl'] at h4
   exact xGz hcl ht0 _ h4 j.1 (List.mem_map.2 ⟨j, List.mem_filter.2 ⟨hj, by rw [hfj]; rfl⟩, rfl⟩)
 have e0 : cnt tl (xCp (ord.map (·.1)) (Array.replicate ops.size false)) = 0 := cnt0 _ fun t ht => by
  have hs := xIf t (ord.map (·.1)) (Array.replicate ops.size false) (htl t ht).2
  have hz := xHa (ord.map (·.1)) (Array.replicate ops.size false)
  have hlt : t < (xCp (ord.map (·.1)) (Array.replicate ops.size false)).size := by rw [hz]; simpa using (htl t ht).1
  intro he
  have hu : (xCp (ord.map (·.1)) (Array.replicate ops.size false)).getD t true = (xCp (ord.map (·.1)) (Array.replicate ops.size false)).getD t false := by simp [hlt]
  rw [← hu, hs] at he
  simp [(htl t ht).1] at he
 have H := xJj (P := P) (tl := tl) (C := C) (Q := fun k a' => ∀ w, C k w → Q .normal a' w) (aH := aH) (n := tl.length) h1
  ord (fun i hi hfi ls hcl hun => cnt0 ls fun t ht hl => by
   have := hfull ls hcl t ht hl i hi hfi
   rcases Nat.lt_or_ge i.1 ls.size with h' | h'
   ·simp [h'] at this hun; rw [hun] at this; cases this
   ·simp [Array.getElem?_eq_none h'] at hun)
  ord (Array.replicate ops.size false) a (fun p hp => ⟨hp, fun ht => (htl p.1 ht).2 (List.mem_map.2 ⟨p, hp, rfl⟩)⟩) hcl0 h2 (hH C hC hIC) (fun a' ha' => by
   subst ha'
   refine xJq tl 0 _ _ hnd (fun t ht => ⟨ht, by rw [xHa]; simpa using (htl t ht).1, ?_⟩) hnd e0 h3 hTK
   rw [xIf t (ord.map (·.1)) _ (htl t ht).2]
   simp [(htl t ht).1])
 refine wpAny_of_K (C := C) (fun k a' w' hw' h' => h' w' hw') _ _ _ w ?_ H
 rw [cnt0 _ (fun t ht he => by simp [(htl t ht).1] at he), hC]
 exact hw
end
section
variable {P : Program} {ops : Array Oper} {C : World → Prop}
def xBi : Nat → List Nat → List (Nat × Bool)
 | _, [] => []
 | k, t :: ts => if t = 2 then xBi (k + 1) ts else (k, decide (t = 1)) :: xBi (k + 1) ts
def xCt : Nat → List Nat → List Nat
 | _, [] => []
 | k, t :: ts => if t = 2 then k :: xCt (k + 1) ts else xCt (k + 1) ts
def xBn (P : Program) (ops : Array Oper) (I : (World → Prop) → Prop) (C : World → Prop) (K : List Oper → Act → Prop) : List Nat → List Oper → List Oper → Act → Prop
  | t :: ts, o :: l, acc, a => if t = 2 then xBn P ops I C K ts l (acc ++ [o]) a else
      ∃ v, (t = 1 → ∀ C' : World → Prop, I C' → xBa P ops o v a C' C') ∧ (t ≠ 1 → xBa P ops o v a C C) ∧ xBn P ops I C K ts l acc (a.put o.dst v)
  | [], _, acc, a => K acc a
  | _ :: _, [], acc, a => K acc a
def xFe (P : Program) (ops : Array Oper) (I : (World → Prop) → Prop) (Q : Exit → Act → World → Prop) : List Oper → (World → Prop) → Act → Prop
 | [], C, a => ∀ w, C w → Q .normal a w
 | o :: r, C, a => ∃ v, ∃ C' : World → Prop, xBa P ops o v a C C' ∧ I C' ∧ xFe P ops I Q r C' (a.put o.dst v)
theorem xGc {I : (World → Prop) → Prop} {Q : Exit → Act → World → Prop} : ∀ (tl : List Nat) (C : World → Prop) (a : Act), (∀ t ∈ tl, t < ops.size) → xFe P ops I Q (tl.filterMap (ops[·]?)) C a → tailW P ops I Q tl C a
  | [], C, a, _, h => h
  | t :: r, C, a, hlt, h => by
    obtain ⟨o, ho⟩ : ∃ o, ops[t]? = some o := ⟨_, Array.getElem?_eq_getElem (hlt t (.head _))⟩
    rw [List.filterMap_cons_some ho] at h
    obtain ⟨v, C', hy, hI, hr⟩ := h
    exact ⟨_, v, C', ho, hy, hI, xGc r C' _ (fun s hs => hlt s (.tail _ hs)) hr⟩
theorem xCu {I : (World → Prop) → Prop} {K : Act → Prop} {KM : List Oper → Act → Prop} : ∀ (ts : List Nat) (l acc : List Oper) (k : Nat) (a : Act), ts.length = l.length → (∀ j, l[j]? = ops[k + j]?) → (∀ a', KM (acc ++ (xCt k ts).filterMap (ops[·]?)) a' → K a') → xBn P ops I C KM ts l acc a → headW P ops I C K (xBi k ts) a
  | [], [], acc, k, a, _, _, hK, h => hK a (by unfold xBn at h; simpa [xCt] using h)
  | [], _ :: _, _, _, _, hl, _, _, _ => nomatch hl
  | _ :: _, [], _, _, _, hl, _, _, _ => nomatch hl
  | t :: ts, o :: l, acc, k, a, hl, hj, hK, h => by
    have h0 : ops[k]? = some o := by simpa using (hj 0).symm
    have hj' : ∀ j, l[j]? = ops[k + 1 + j]? := fun j => by have := hj (j + 1); simpa [Nat.add_assoc, Nat.add_comm 1 j] using this
    have hl' : ts.length = l.length := by simpa using hl
    unfold xBn at h
    by_cases ht : t = 2
    · subst ht
      simp only [if_true] at h
      simp only [xBi, if_true]
      refine xCu ts l (acc ++ [o]) (k + 1) a hl' hj' (fun a' ha' => hK a' ?_) h
      simp only [xCt, if_true, List.filterMap_cons_some h0]
      simpa using ha'
    · rw [if_neg ht] at h
      obtain ⟨v, h1, h2, hr⟩ := h
      simp only [xBi, if_neg ht]
      refine ⟨o, v, h0, fun hb => h1 (by simpa using hb), fun hb => h2 (by simpa using hb), xCu ts l acc (k + 1) _ hl' hj' (fun a' ha' => hK a' ?_) hr⟩
      simp only [xCt, if_neg ht]
      exact ha'
end
attribute [go_sem] uponTo
section
variable {P : Program} {ops : Array Oper} {B0 : Nat} {w0 : World} {L L' : List (Nat × Obj)} {ts : List Nat} {r acc : List Oper} {o : Oper} {a : Act} {K : List Oper → Act → Prop} {I : (World → Prop) → Prop} {C : World → Prop} {Q : Exit → Act → World → Prop} {Kp : List (Nat × Obj)}
def xDa (B0 : Nat) (w0 : World) (Kp : List (Nat × Obj)) : (World → Prop) → Prop := fun C => ∃ L, C = Rep B0 w0 L ∧ ∀ p, p ∈ Kp → p ∈ L
def picks (L : List (Nat × Obj)) (ks : List Nat) : List (Nat × Obj) := ks.filterMap (L[·]?)
theorem picks_mem (L : List (Nat × Obj)) (ks : List Nat) : ∀ p, p ∈ picks L ks → p ∈ L := fun p hp => by
 obtain ⟨k, _, h⟩ := List.mem_filterMap.1 hp
 exact List.mem_of_getElem? h
theorem xAd {id : Nat} {w : World} {l : List Oper} (hR : Rep B0 w0 L w) (ts ks : List Nat) (hm : P.follows .mixedOrders = true) (hB : ordOK l.toArray (xBi 0 ts) (xCt 0 ts) = true) (hlen : ts.length = l.length) (hlen2 : (xBi 0 ts).length + (xCt 0 ts).length = l.length)
  (h : ∀ K : List Oper → Act → Prop, (∀ tl a', xFe P l.toArray (xDa B0 w0 (picks L ks)) Q tl (Rep B0 w0 L) a' → K tl a') → xBn P l.toArray (xDa B0 w0 (picks L ks)) (Rep B0 w0 L) K ts l [] a) : (Code.region id l.toArray true).wp P Q a w := by
 have h := h _ (fun _ _ h => h)
 refine wp_region_any hm ?_
 have hlt : ∀ t ∈ xCt 0 ts, t < l.toArray.size := fun t ht => by
  simp only [ordOK, Bool.and_eq_true] at hB
  have := List.all_eq_true.1 hB.2 t ht
  simp only [Bool.and_eq_true, decide_eq_true_eq] at this
  exact this.1
 have := wpAny_ord (w := w.drew) (Q := Q) (xBi 0 ts) (xCt 0 ts) hB hR.drew ⟨L, rfl, picks_mem L ks⟩ (xCu (K := tailW P l.toArray (xDa B0 w0 (picks L ks)) Q (xCt 0 ts) (Rep B0 w0 L)) ts l [] 0 a hlen (fun j => by simp) (fun a' ha' => xGc _ _ a' hlt (by simpa using ha')) h)
 rw [hlen2] at this
 simpa using this
theorem xAo (h : K acc a) : xBn P ops I C K [] [] acc a := h
theorem xAp (h : xBn P ops I C K ts r (acc ++ [o]) a) : xBn P ops I C K (2 :: ts) (o :: r) acc a := h
theorem xDc {m : Nat} (hm : m ≠ 2) (hw : Region.wanted o (yielded ops a.tmps) = true) {v : Value} (hrun : ∀ w, (execOp a.eval o).run P w = .ok (.value v) w) {a' : Act} (ha : a.put o.dst v = a') (h : xBn P ops I C K ts r acc a') : xBn P ops I C K (m :: ts) (o :: r) acc a := by
 have q : ∀ C' : World → Prop, xBa P ops o v a C' C' := fun C' => .inl ⟨hw, fun w hC => by rw [hrun w]; exact ⟨rfl, hC⟩⟩
 unfold xBn
 rw [if_neg hm]
 exact ⟨v, fun _ C' _ => q C', fun _ => q C, by rw [ha]; exact h⟩
theorem xAj {m : Nat} (hm : m ≠ 2) (hw : Region.wanted o (yielded ops a.tmps) = true) {x : Operand} (hop : o.op = .move x ∨ o.op = .assign x) {v : Value} (hx' : ev a x = some v) {a' : Act} (ha : a.put o.dst v = a') (h : xBn P ops I C K ts r acc a') : xBn P ops I C K (m :: ts) (o :: r) acc a :=
 xDc hm hw (fun w => by have hx := xAw hx'; unfold execOp; subst hx; rcases hop with h | h <;> rw [h] <;> rfl) ha h
theorem xCe {m : Nat} (hm : m ≠ 2) (hw : Region.wanted o (yielded ops a.tmps) = false) {a' : Act} (ha : a.put o.dst undef = a') (h : xBn P ops I C K ts r acc a') : xBn P ops I C K (m :: ts) (o :: r) acc a := by
 unfold xBn
 rw [if_neg hm]
 exact ⟨undef, fun _ _ _ => .inr ⟨hw, rfl, fun _ h => h⟩, fun _ => .inr ⟨hw, rfl, fun _ h => h⟩, by rw [ha]; exact h⟩
theorem xHk (hw : Region.wanted o (yielded ops a.tmps) = true) {v : Value} (hq : ∀ w, C w → uponTo P C v ((execOp a.eval o).run P w)) {a' : Act} (ha : a.put o.dst v = a') (h : xBn P ops I C K ts r acc a') : xBn P ops I C K (0 :: ts) (o :: r) acc a := by
 unfold xBn
 rw [if_neg (by decide)]
 exact ⟨v, fun h1 => (nomatch h1), fun _ => .inl ⟨hw, hq⟩, by rw [ha]; exact h⟩
theorem hd_loadRow (hw : Region.wanted o (yielded ops a.tmps) = true) {ty : TypeId} {x : Operand} (hop : o.op = .load ty x) {n : Nat} {b off : Nat} (hx : a.eval x = .pointer (some ⟨b, off, none⟩)) (hT : RowT P ty n) {l vs : List Value} {t : TypeId}
  (hm : (b, Obj.cells l.toArray t) ∈ L) (hv : (l.drop off).take n = vs) (hn : vs.length = n) {a' : Act} (ha : a.put o.dst (.agg vs.toArray) = a') (h : xBn P ops I (Rep B0 w0 L) K ts r acc a') : xBn P ops I (Rep B0 w0 L) K (0 :: ts) (o :: r) acc a :=
 xHk hw (fun w hR => by
  unfold execOp
  simp only [hop, hx, Instr.loadAt, Instr.sureAddr, Sem.run_bind, Sem.run_pure, Result.andThen_ok, hR.loadRow (P := P) (ty := ty) hm hv hn]
  exact ⟨rfl, hR⟩) ha h
theorem hd_loadAll (hw : Region.wanted o (yielded ops a.tmps) = true) {ty : TypeId} {x : Operand} (hop : o.op = .load ty x) {n : Nat} {b : Nat} (hx : a.eval x = .pointer (some ⟨b, 0, none⟩)) (hT : RowT P ty n) {l : List Value} {t : TypeId}
  (hm : (b, Obj.cells l.toArray t) ∈ L) (hn : l.length = n) {a' : Act} (ha : a.put o.dst (.agg l.toArray) = a') (h : xBn P ops I (Rep B0 w0 L) K ts r acc a') : xBn P ops I (Rep B0 w0 L) K (0 :: ts) (o :: r) acc a :=
 hd_loadRow hw hop hx hT hm (by simp [← hn]) hn ha h
theorem hd_loadCell (hw : Region.wanted o (yielded ops a.tmps) = true) {ty : TypeId} {x : Operand} (hop : o.op = .load ty x) {b off : Nat} (hx : a.eval x = .pointer (some ⟨b, off, none⟩)) (hT : xDp P ty) {l : List Value} {v : Value} {t : TypeId}
  (hm : (b, Obj.cells l.toArray t) ∈ L) (hv : l[off]? = some v) {a' : Act} (ha : a.put o.dst v = a') (h : xBn P ops I (Rep B0 w0 L) K ts r acc a') : xBn P ops I (Rep B0 w0 L) K (0 :: ts) (o :: r) acc a :=
 xHk hw (fun w hR => by
  unfold execOp
  simp only [hop, hx, Instr.loadAt, Instr.sureAddr, Sem.run_bind, Sem.run_pure, Result.andThen_ok, hR.loadCell (P := P) (ty := ty) hm hv]
  exact ⟨rfl, hR⟩) ha h
theorem xJa (hw : Region.wanted o (yielded ops a.tmps) = true) {v : Value} (hq : ∀ L w, (∀ p, p ∈ Kp → p ∈ L) → Rep B0 w0 L w → uponTo P (Rep B0 w0 L) v ((execOp a.eval o).run P w)) {a' : Act} (ha : a.put o.dst v = a') (h : xBn P ops (xDa B0 w0 Kp) C K ts r acc a') : xBn P ops (xDa B0 w0 Kp) C K (1 :: ts) (o :: r) acc a := by
 unfold xBn
 rw [if_neg (by decide)]
 exact ⟨v, fun _ C' ⟨L, hC, hL⟩ => by subst hC; exact .inl ⟨hw, fun w hw' => hq L w hL hw'⟩, fun h1 => absurd rfl h1, by rw [ha]; exact h⟩
theorem hd_keepRow (hw : Region.wanted o (yielded ops a.tmps) = true) {ty : TypeId} {x : Operand} (hop : o.op = .load ty x) {n : Nat} {b off : Nat} (hx : a.eval x = .pointer (some ⟨b, off, none⟩)) (hT : RowT P ty n) {l vs : List Value} {t : TypeId}
  (hm : (b, Obj.cells l.toArray t) ∈ Kp) (hv : (l.drop off).take n = vs) (hn : vs.length = n) {a' : Act} (ha : a.put o.dst (.agg vs.toArray) = a') (h : xBn P ops (xDa B0 w0 Kp) C K ts r acc a') : xBn P ops (xDa B0 w0 Kp) C K (1 :: ts) (o :: r) acc a :=
 xJa hw (fun L w hL hR => by
  unfold execOp
  simp only [hop, hx, Instr.loadAt, Instr.sureAddr, Sem.run_bind, Sem.run_pure, Result.andThen_ok, hR.loadRow (P := P) (ty := ty) (hL _ hm) hv hn]
  exact ⟨rfl, hR⟩) ha h
theorem hd_keepCell (hw : Region.wanted o (yielded ops a.tmps) = true) {ty : TypeId} {x : Operand} (hop : o.op = .load ty x) {b off : Nat} (hx : a.eval x = .pointer (some ⟨b, off, none⟩)) (hT : xDp P ty) {l : List Value} {v : Value} {t : TypeId}
  (hm : (b, Obj.cells l.toArray t) ∈ Kp) (hv : l[off]? = some v) {a' : Act} (ha : a.put o.dst v = a') (h : xBn P ops (xDa B0 w0 Kp) C K ts r acc a') : xBn P ops (xDa B0 w0 Kp) C K (1 :: ts) (o :: r) acc a :=
 xJa hw (fun L w hL hR => by
  unfold execOp
  simp only [hop, hx, Instr.loadAt, Instr.sureAddr, Sem.run_bind, Sem.run_pure, Result.andThen_ok, hR.loadCell (P := P) (ty := ty) (hL _ hm) hv]
  exact ⟨rfl, hR⟩) ha h
theorem xAi {f : FuncId} {fn : Func} (hf : P.funcs[f]? = some fn) (hname : (fn.name == "runtime.NumGoroutine") = false) (hb : fn.body.isNone = false) (args : Array Value) (w : World) : (callFunc f args).run P w = .ok (.enter f args) w := by
 have h1 : fn.name ≠ "runtime.NumGoroutine" := by simpa using hname
 have h2 : fn.body ≠ none := fun h => by rw [h] at hb; cases hb
 simp [callFunc, hf, h1, h2]
section
variable {m : Nat}
theorem xDl (s : Sem Value) {w : World} {v : Value} (h : s.run P w = .ok v w) : (do pure (Next.value (← s)) : Sem Next).run P w = .ok (.value v) w := by
 rw [Sem.run_bind, h]; rfl
theorem xAg (hm : m ≠ 2) (hw : Region.wanted o (yielded ops a.tmps) = true) {t : TypeId} {x y : Operand} (hop : o.op = .indexAddr t x y) {vx vy v : Value} (hx' : ev a x = some vx) (hy' : ev a y = some vy) (hrun : ∀ w, (Instr.indexAt t vx vy).run P w = .ok v w)
  {a' : Act} (ha : a.put o.dst v = a') (h : xBn P ops I C K ts r acc a') : xBn P ops I C K (m :: ts) (o :: r) acc a :=
 xDc hm hw (fun w => by have hx := xAw hx'; have hy := xAw hy'; unfold execOp; simp only [hop, hx, hy]; exact xDl _ (hrun w)) ha h
theorem xEx (hm : m ≠ 2) (hw : Region.wanted o (yielded ops a.tmps) = true) {t : TypeId} {x y : Operand} (hop : o.op = .index t x y) {vx vy v : Value} (hx' : ev a x = some vx) (hy' : ev a y = some vy) (hrun : ∀ w, (Instr.index t vx vy).run P w = .ok v w)
  {a' : Act} (ha : a.put o.dst v = a') (h : xBn P ops I C K ts r acc a') : xBn P ops I C K (m :: ts) (o :: r) acc a :=
 xDc hm hw (fun w => by have hx := xAw hx'; have hy := xAw hy'; unfold execOp; simp only [hop, hx, hy]; exact xDl _ (hrun w)) ha h
theorem xAm (hm : m ≠ 2) (hw : Region.wanted o (yielded ops a.tmps) = true) {op : BinOp} {t u : TypeId} {x y : Operand} (hop : o.op = .binOp op t x y u) {vx vy v : Value} (hx' : ev a x = some vx) (hy' : ev a y = some vy)
  (hrun : ∀ w, (do eqGuard op t x y vx vy; binOp op t vx vy : Sem Value).run P w = .ok v w)
  {a' : Act} (ha : a.put o.dst v = a') (h : xBn P ops I C K ts r acc a') : xBn P ops I C K (m :: ts) (o :: r) acc a :=
 xDc hm hw (fun w => by have hx := xAw hx'; have hy := xAw hy'; unfold execOp; simp only [hop, hx, hy]; exact xDl _ (hrun w)) ha h
theorem xBy (hm : m ≠ 2) (hw : Region.wanted o (yielded ops a.tmps) = true) {t u : TypeId} {x : Operand} (hop : o.op = .convert t u x) {vx v : Value} (hx' : ev a x = some vx) (hrun : ∀ w, (convert t u vx).run P w = .ok v w)
  {a' : Act} (ha : a.put o.dst v = a') (h : xBn P ops I C K ts r acc a') : xBn P ops I C K (m :: ts) (o :: r) acc a :=
 xDc hm hw (fun w => by have hx := xAw hx'; unfold execOp; simp only [hop, hx]; exact xDl _ (hrun w)) ha h
theorem xAl (hm : m ≠ 2) (hw : Region.wanted o (yielded ops a.tmps) = true) {t : TypeId} {x : Operand} {f : Nat} (hop : o.op = .fieldAddr t x f) {vx v : Value} (hx' : ev a x = some vx) (hrun : ∀ w, (Instr.fieldAt t vx f).run P w = .ok v w)
  {a' : Act} (ha : a.put o.dst v = a') (h : xBn P ops I C K ts r acc a') : xBn P ops I C K (m :: ts) (o :: r) acc a :=
 xDc hm hw (fun w => by have hx := xAw hx'; unfold execOp; simp only [hop, hx]; exact xDl _ (hrun w)) ha h
theorem xAt (hm : m ≠ 2) (hw : Region.wanted o (yielded ops a.tmps) = true) {x : Operand} {i : Nat} (hop : o.op = .extract x i) {vx v : Value} (hx' : ev a x = some vx) (hrun : ∀ w, (Instr.extract vx i).run P w = .ok v w)
  {a' : Act} (ha : a.put o.dst v = a') (h : xBn P ops I C K ts r acc a') : xBn P ops I C K (m :: ts) (o :: r) acc a :=
 xDc hm hw (fun w => by have hx := xAw hx'; unfold execOp; simp only [hop, hx]; exact xDl _ (hrun w)) ha h
theorem xCr (hm : m ≠ 2) (hw : Region.wanted o (yielded ops a.tmps) = true) {t : TypeId} {parts : Array (Nat × Operand)} (hop : o.op = .build t parts) {v : Value}
  (hrun : ∀ w, (Instr.build t (parts.map fun p => (p.1, a.eval p.2))).run P w = .ok v w)
  {a' : Act} (ha : a.put o.dst v = a') (h : xBn P ops I C K ts r acc a') : xBn P ops I C K (m :: ts) (o :: r) acc a :=
 xDc hm hw (fun w => by unfold execOp; simp only [hop]; exact xDl _ (hrun w)) ha h
theorem xBh (hm : m ≠ 2) (hw : Region.wanted o (yielded ops a.tmps) = true) {x y z : Operand} (hop : o.op = .pick x y z) {b : Bool} {v : Value} (hx : a.eval x = .bool b) (hv' : ev a (if b then y else z) = some v)
  {a' : Act} (ha : a.put o.dst v = a') (h : xBn P ops I C K ts r acc a') : xBn P ops I C K (m :: ts) (o :: r) acc a :=
 xDc hm hw (fun w => by unfold execOp; have hv := xAw hv'; simp only [hop, hx]; rw [← hv]; cases b <;> rfl) ha h
theorem xAz (hm : m ≠ 2) (hw : Region.wanted o (yielded ops a.tmps) = true) {x : Operand} (hop : o.op = .nilCheck x) {ad : Addr} (hx : a.eval x = .pointer (some ad))
  {a' : Act} (ha : a.put o.dst (.pointer (some ad)) = a') (h : xBn P ops I C K ts r acc a') : xBn P ops I C K (m :: ts) (o :: r) acc a :=
 xDc hm hw (fun w => by unfold execOp; simp only [hop, hx]; rfl) ha h
theorem xCq (hm : m ≠ 2) (hw : Region.wanted o (yielded ops a.tmps) = true) {t : TypeId} {x : Operand} {lo hi mx : Option Operand} (hop : o.op = .slice t x lo hi mx) {vx v : Value} {vl vh vm : Option Value} (hx' : ev a x = some vx) (hl' : evO a lo = some vl) (hh' : evO a hi = some vh) (hmx' : evO a mx = some vm)
  (hrun : ∀ w, (Instr.sliceAt t vx vl vh vm).run P w = .ok v w)
  {a' : Act} (ha : a.put o.dst v = a') (h : xBn P ops I C K ts r acc a') : xBn P ops I C K (m :: ts) (o :: r) acc a :=
 xDc hm hw (fun w => by have hx := xAw hx'; have hl := evO_eval hl'; have hh := evO_eval hh'; have hmx := evO_eval hmx'; unfold execOp; simp only [hop, hx, hl, hh, hmx]; exact xDl _ (hrun w)) ha h
theorem xCn (hm : m ≠ 2) (hw : Region.wanted o (yielded ops a.tmps) = true) {t : TypeId} {x : Operand} (hop : o.op = .sliceToArrayPointer t x) {vx v : Value} (hx' : ev a x = some vx) (hrun : ∀ w, (Instr.arrayAt t vx).run P w = .ok v w)
  {a' : Act} (ha : a.put o.dst v = a') (h : xBn P ops I C K ts r acc a') : xBn P ops I C K (m :: ts) (o :: r) acc a :=
 xDc hm hw (fun w => by have hx := xAw hx'; unfold execOp; simp only [hop, hx]; exact xDl _ (hrun w)) ha h
theorem xDi (hm : m ≠ 2) (hw : Region.wanted o (yielded ops a.tmps) = true) {t : TypeId} {x : Operand} {f : Nat} (hop : o.op = .field t x f) {vx v : Value} (hx' : ev a x = some vx) (hrun : ∀ w, (Instr.field t vx f).run P w = .ok v w)
  {a' : Act} (ha : a.put o.dst v = a') (h : xBn P ops I C K ts r acc a') : xBn P ops I C K (m :: ts) (o :: r) acc a :=
 xDc hm hw (fun w => by have hx := xAw hx'; unfold execOp; simp only [hop, hx]; exact xDl _ (hrun w)) ha h
theorem hd_extern (hm : m ≠ 2) (hw : Region.wanted o (yielded ops a.tmps) = true) {f : FuncId} {xs : List Operand} {us : Array TypeId} (hop : o.op = .call { callee := .value (.func f), args := xs.toArray, argTypes := us }) {vs : List Value} {v : Value} (hx' : evL a xs = some vs)
  (hrun : ∀ w, (callFunc f vs.toArray).run P w = .ok (.value v) w) {a' : Act} (ha : a.put o.dst v = a') (h : xBn P ops I C K ts r acc a') : xBn P ops I C K (m :: ts) (o :: r) acc a :=
 xDc hm hw (fun w => by
  have hx := xCy hx'
  unfold execOp
  simp only [hop, resolve, Deferred.ofValue, Act.eval, Sem.run_bind, Sem.run_pure, Result.andThen_ok, hx]
  have := hrun w
  simpa [invoke] using this) ha h
theorem xAk (hw : Region.wanted o (yielded ops a.tmps) = true) {f : FuncId} {xs : List Operand} {us : Array TypeId} (hop : o.op = .call { callee := .value (.func f), args := xs.toArray, argTypes := us }) {vs : List Value} {v : Value} (hx' : evL a xs = some vs)
  (hent : ∀ w, (callFunc f vs.toArray).run P w = .ok (.enter f vs.toArray) w) (hq : ∀ w, Calls P f vs.toArray w fun e w' => e = .returned v ∧ Below w.heap.size w w')
  {a' : Act} (ha : a.put o.dst v = a') (h : xBn P ops I (Rep B0 w0 L) K ts r acc a') : xBn P ops I (Rep B0 w0 L) K (0 :: ts) (o :: r) acc a :=
 xHk hw (fun w hR => by
  have e : (execOp a.eval o).run P w = .ok (.enter f vs.toArray) w := by
   have hx := xCy hx'
   unfold execOp
   simp only [hop, resolve, Deferred.ofValue, Act.eval, Sem.run_bind, Sem.run_pure, Result.andThen_ok, hx]
   have := hent w
   simpa [invoke] using this
  rw [e]
  exact (hq w).mono fun e' w' ⟨he, hb⟩ => ⟨he, hR.call hb⟩) ha h
end
theorem xAr (h : ∀ Q' : Exit → Act → World → Prop, (∀ a w, Q .normal a w → Q' .normal a w) → xFe P ops I Q' r C a) : xFe P ops I Q r C a := h Q (fun _ _ h => h)
theorem xAs (h : ∀ w, C w → Q .normal a w) : xFe P ops I Q [] C a := h
theorem xHe (hw : Region.wanted o (yielded ops a.tmps) = true) {v : Value} (hrun : ∀ w, (execOp a.eval o).run P w = .ok (.value v) w) (hk : ∀ p, p ∈ Kp → p ∈ L) {a' : Act} (ha : a.put o.dst v = a') (h : xFe P ops (xDa B0 w0 Kp) Q r (Rep B0 w0 L) a') : xFe P ops (xDa B0 w0 Kp) Q (o :: r) (Rep B0 w0 L) a :=
 ⟨v, Rep B0 w0 L, .inl ⟨hw, fun w hC => by rw [hrun w]; exact ⟨rfl, hC⟩⟩, ⟨L, rfl, hk⟩, by rw [ha]; exact h⟩
theorem xBf (hw : Region.wanted o (yielded ops a.tmps) = true) {x : Operand} (hop : o.op = .move x ∨ o.op = .assign x) {v : Value} (hx' : ev a x = some v) (hk : ∀ p, p ∈ Kp → p ∈ L) {a' : Act} (ha : a.put o.dst v = a') (h : xFe P ops (xDa B0 w0 Kp) Q r (Rep B0 w0 L) a') : xFe P ops (xDa B0 w0 Kp) Q (o :: r) (Rep B0 w0 L) a :=
 xHe hw (fun w => by have hx := xAw hx'; unfold execOp; subst hx; rcases hop with h | h <;> rw [h] <;> rfl) hk ha h
theorem tl_storeRow (hw : Region.wanted o (yielded ops a.tmps) = true) {ty : TypeId} {x y : Operand} (hop : o.op = .store ty x y) {n : Nat} {b off : Nat} (hx : a.eval x = .pointer (some ⟨b, off, none⟩)) (hT : RowT P ty n) {l l' vs : List Value} {t : TypeId}
  (hy : a.eval y = .agg vs.toArray) (h1 : vs.all (·.oneCell') = true) (hvn : vs.length = n) (hs : xBq L b (.cells l.toArray t) (.cells l'.toArray t) L') (hn : off + n ≤ l.length) (hl : l.take off ++ vs ++ l.drop (off + n) = l')
  (hk : ∀ p, p ∈ Kp → p ∈ L') {a' : Act} (ha : a.put o.dst undef = a') (h : xFe P ops (xDa B0 w0 Kp) Q r (Rep B0 w0 L') a') : xFe P ops (xDa B0 w0 Kp) Q (o :: r) (Rep B0 w0 L) a :=
 ⟨undef, _, .inl ⟨hw, fun w hR => by
  obtain ⟨w', e, hR'⟩ := hR.storeRow (P := P) (ty := ty) h1 hvn hs hn hl
  unfold execOp
  simp only [hop, hx, hy, Instr.storeAt, Instr.sureAddr, Sem.run_bind, Sem.run_pure, Result.andThen_ok, e]
  exact ⟨rfl, hR'⟩⟩, ⟨L', rfl, hk⟩, by rw [ha]; exact h⟩
theorem tl_storeAll (hw : Region.wanted o (yielded ops a.tmps) = true) {ty : TypeId} {x y : Operand} (hop : o.op = .store ty x y) {n : Nat} {b : Nat} (hx : a.eval x = .pointer (some ⟨b, 0, none⟩)) (hT : RowT P ty n) {l vs : List Value} {t : TypeId}
  (hy : a.eval y = .agg vs.toArray) (hs : xBq L b (.cells l.toArray t) (.cells vs.toArray t) L') (h1 : vs.all (·.oneCell') = true) (hvn : vs.length = n) (hn : l.length = n)
  (hk : ∀ p, p ∈ Kp → p ∈ L') {a' : Act} (ha : a.put o.dst undef = a') (h : xFe P ops (xDa B0 w0 Kp) Q r (Rep B0 w0 L') a') : xFe P ops (xDa B0 w0 Kp) Q (o :: r) (Rep B0 w0 L) a :=
 tl_storeRow hw hop hx hT hy h1 hvn hs (by omega) (by simp [← hn]) hk ha h
theorem tl_storeCell (hw : Region.wanted o (yielded ops a.tmps) = true) {ty : TypeId} {x y : Operand} (hop : o.op = .store ty x y) {b off : Nat} (hx : a.eval x = .pointer (some ⟨b, off, none⟩)) (hT : xDp P ty) {l l' : List Value} {v : Value} {t : TypeId}
  (hy' : ev a y = some v) (h1 : v.oneCell' = true) (hs : xBq L b (.cells l.toArray t) (.cells l'.toArray t) L') (hn : off < l.length) (hl : l.set off v = l')
  (hk : ∀ p, p ∈ Kp → p ∈ L') {a' : Act} (ha : a.put o.dst undef = a') (h : xFe P ops (xDa B0 w0 Kp) Q r (Rep B0 w0 L') a') : xFe P ops (xDa B0 w0 Kp) Q (o :: r) (Rep B0 w0 L) a :=
 ⟨undef, _, .inl ⟨hw, fun w hR => by
  have hy := xAw hy'
  obtain ⟨w', e, hR'⟩ := hR.storeCell (P := P) (ty := ty) h1 hs hn hl
  unfold execOp
  simp only [hop, hx, hy, Instr.storeAt, Instr.sureAddr, Sem.run_bind, Sem.run_pure, Result.andThen_ok, e]
  exact ⟨rfl, hR'⟩⟩, ⟨L', rfl, hk⟩, by rw [ha]; exact h⟩
theorem xAq {fn : Func} {p : Tmp} {ty : TypeId} (h : fn.results = #[.cell p ty]) {tmps : Array Value} {w : World} {ad : Addr} {v : Value} (hp : tmps.getD p undef = .pointer (some ad)) (hl : (loadVar ty ad).run P w = .ok v w) :
  (results fn tmps).run P w = .ok v w := by
 have hp' : tmps[p]?.getD undef = .pointer (some ad) := by simpa using hp
 simp [results, h, hp', asAddr, hl]
theorem xAh {fn : Func} {p u : Tmp} {ty : TypeId} (h : fn.results = #[.cell p ty, .tmp u]) {tmps : Array Value} {w : World} {ad : Addr} {v : Value} (hp : tmps.getD p undef = .pointer (some ad)) (hl : (loadVar ty ad).run P w = .ok v w) :
  (results fn tmps).run P w = .ok (.tuple #[v, tmps.getD u undef]) w := by
 have hp' : tmps[p]?.getD undef = .pointer (some ad) := by simpa using hp
 simp [results, h, hp', asAddr, hl]
theorem xEn {fn : Func} {p q : Tmp} {ty uy : TypeId} (h : fn.results = #[.cell p ty, .cell q uy]) {tmps : Array Value} {w : World} {ad bd : Addr} {v u : Value} (hp : tmps.getD p undef = .pointer (some ad)) (hl : (loadVar ty ad).run P w = .ok v w)
  (hq : tmps.getD q undef = .pointer (some bd)) (hk : (loadVar uy bd).run P w = .ok u w) : (results fn tmps).run P w = .ok (.tuple #[v, u]) w := by
 have hp' : tmps[p]?.getD undef = .pointer (some ad) := by simpa using hp
 have hq' : tmps[q]?.getD undef = .pointer (some bd) := by simpa using hq
 simp [results, h, hp', hq', asAddr, hl, hk]
theorem xDw {fn : Func} {p q r : Tmp} {ty uy : TypeId} (h : fn.results = #[.cell p ty, .cell q uy, .tmp r]) {tmps : Array Value} {w : World} {ad bd : Addr} {v u : Value} (hp : tmps.getD p undef = .pointer (some ad)) (hl : (loadVar ty ad).run P w = .ok v w)
  (hq : tmps.getD q undef = .pointer (some bd)) (hk : (loadVar uy bd).run P w = .ok u w) : (results fn tmps).run P w = .ok (.tuple #[v, u, tmps.getD r undef]) w := by
 have hp' : tmps[p]?.getD undef = .pointer (some ad) := by simpa using hp
 have hq' : tmps[q]?.getD undef = .pointer (some bd) := by simpa using hq
 simp [results, h, hp', hq', asAddr, hl, hk]
end
end
section
noncomputable def B : Nat := opq (2 ^ 256)
theorem B_eq : B = 18446744073709551616 * 18446744073709551616 * 18446744073709551616 * 18446744073709551616 := (xBs _).trans (by decide)
theorem xEy : 0 < B := by rw [B_eq]; decide
noncomputable def wd : Nat → Nat → Int := opq fun a i => ((a / 18446744073709551616 ^ i % 18446744073709551616 : Nat) : Int)
theorem xDe (a i : Nat) : wd a i = ((a / 18446744073709551616 ^ i % 18446744073709551616 : Nat) : Int) := by unfold wd; rw [xBs]
noncomputable def nl (a : Nat) : List Value := [.int .u64 (wd a 0), .int .u64 (wd a 1), .int .u64 (wd a 2), .int .u64 (wd a 3)]
noncomputable abbrev num (a : Nat) : Value := .agg (nl a).toArray
theorem xDz (a i : Nat) : 0 ≤ wd a i := by rw [xDe]; omega
theorem xEk (a i : Nat) : wd a i < 18446744073709551616 := by rw [xDe]; omega
def ofW (a b c d : Nat) : Nat := a + 18446744073709551616 * (b + 18446744073709551616 * (c + 18446744073709551616 * d))
theorem wd_ofW (a b c d : Nat) (ha : a < 18446744073709551616) (hb : b < 18446744073709551616) (hc : c < 18446744073709551616) (hd : d < 18446744073709551616) :
  wd (ofW a b c d) 0 = a ∧ wd (ofW a b c d) 1 = b ∧ wd (ofW a b c d) 2 = c ∧ wd (ofW a b c d) 3 = d := by
 have e1 : ofW a b c d / 18446744073709551616 = b + 18446744073709551616 * (c + 18446744073709551616 * d) := by unfold ofW; omega
 have e2 : (b + 18446744073709551616 * (c + 18446744073709551616 * d)) / 18446744073709551616 = c + 18446744073709551616 * d := by omega
 have e3 : (c + 18446744073709551616 * d) / 18446744073709551616 = d := by omega
 have p2 : ofW a b c d / 18446744073709551616 ^ 2 = c + 18446744073709551616 * d := by
  rw [Nat.pow_succ, Nat.pow_one, ← Nat.div_div_eq_div_mul, e1, e2]
 have p3 : ofW a b c d / 18446744073709551616 ^ 3 = d := by
  rw [Nat.pow_succ, ← Nat.div_div_eq_div_mul, p2, e3]
 simp only [xDe]
 rw [p2, p3, Nat.pow_zero, Nat.pow_one, e1]
 refine ⟨?_, ?_, ?_, ?_⟩
 ·unfold ofW; omega
 ·omega
 ·omega
 ·omega
theorem nl_ofW (a b c d : Nat) (ha : a < 18446744073709551616) (hb : b < 18446744073709551616) (hc : c < 18446744073709551616) (hd : d < 18446744073709551616) :
  nl (ofW a b c d) = [.int .u64 a, .int .u64 b, .int .u64 c, .int .u64 d] := by
 obtain ⟨h0, h1, h2, h3⟩ := wd_ofW a b c d ha hb hc hd
 unfold nl
 rw [h0, h1, h2, h3]
theorem nl_of (a b c d : Int) (ha : 0 ≤ a ∧ a < 18446744073709551616) (hb : 0 ≤ b ∧ b < 18446744073709551616) (hc : 0 ≤ c ∧ c < 18446744073709551616) (hd : 0 ≤ d ∧ d < 18446744073709551616) :
  [.int .u64 a, .int .u64 b, .int .u64 c, .int .u64 d] = nl (ofW a.toNat b.toNat c.toNat d.toNat) := by
 rw [nl_ofW _ _ _ _ (by omega) (by omega) (by omega) (by omega)]
 rw [Int.toNat_of_nonneg ha.1, Int.toNat_of_nonneg hb.1, Int.toNat_of_nonneg hc.1, Int.toNat_of_nonneg hd.1]
theorem ofW_lt (a b c d : Nat) (ha : a < 18446744073709551616) (hb : b < 18446744073709551616) (hc : c < 18446744073709551616) (hd : d < 18446744073709551616) : ofW a b c d < B := by
 rw [B_eq]; unfold ofW; omega
def w64 (a i : Nat) : Nat := a / 18446744073709551616 ^ i % 18446744073709551616
theorem xFm (a i : Nat) : wd a i = (w64 a i : Int) := xDe a i
theorem xDb (a i : Nat) : w64 a i < 18446744073709551616 := Nat.mod_lt _ (by decide)
theorem xEz (a : Nat) : ofW (w64 a 0) (w64 a 1) (w64 a 2) (w64 a 3) = a % B := by
 have d2 : a / 18446744073709551616 ^ 2 = a / 18446744073709551616 / 18446744073709551616 := by rw [Nat.pow_succ, Nat.pow_one, Nat.div_div_eq_div_mul]
 have d3 : a / 18446744073709551616 ^ 3 = a / 18446744073709551616 / 18446744073709551616 / 18446744073709551616 := by rw [Nat.pow_succ, ← Nat.div_div_eq_div_mul, d2]
 unfold w64 ofW
 rw [d2, d3, B_eq, Nat.pow_zero, Nat.pow_one]
 omega
theorem nl_mod (a : Nat) : nl (a % B) = nl a := by
 rw [← xEz, nl_ofW _ _ _ _ (xDb _ _) (xDb _ _) (xDb _ _) (xDb _ _)]
 unfold nl
 simp only [xFm]
theorem xHj (a : Nat) : num (a % B) = num a := by unfold num; rw [nl_mod]
theorem nl_inj {a b : Nat} (h : nl a = nl b) : a % B = b % B := by
 unfold nl at h
 simp only [List.cons.injEq, Value.int.injEq, true_and, and_true] at h
 obtain ⟨h0, h1, h2, h3⟩ := h
 rw [xFm, xFm] at h0 h1 h2 h3
 rw [← xEz a, ← xEz b, show w64 a 0 = w64 b 0 by omega, show w64 a 1 = w64 b 1 by omega, show w64 a 2 = w64 b 2 by omega, show w64 a 3 = w64 b 3 by omega]
noncomputable def eqN : Nat → Nat → Bool := opq fun a b => decide (a % B = b % B)
theorem xIn (a b : Nat) : eqN a b = decide (a % B = b % B) := by unfold eqN; rw [xBs]
theorem xDm (a : Nat) : eqN a a = true := by simp [xIn]
theorem xFw {a b : Nat} (h : a = b) : eqN a b = true := by rw [h]; exact xDm b
theorem xDq {a b : Nat} (ha : a < B) (hb : b < B) (h : a ≠ b) : eqN a b = false := by simp [xIn, Nat.mod_eq_of_lt ha, Nat.mod_eq_of_lt hb, h]
instance : RowT Tryz.prog 24 4 := .mk' (by kernel_rfl) (by kernel_rfl)
instance : xDp Tryz.prog 22 := .mk' (by kernel_rfl) (by kernel_rfl)
instance : xDp Tryz.prog 3 := .mk' (by kernel_rfl) (by kernel_rfl)
instance : xDp Tryz.prog 4 := .mk' (by kernel_rfl) (by kernel_rfl)
instance : xDp Tryz.prog 32 := .mk' (by kernel_rfl) (by kernel_rfl)
instance : xKf Tryz.prog 24 [.int .u64 0, .int .u64 0, .int .u64 0, .int .u64 0] := ⟨.agg #[.int .u64 0, .int .u64 0, .int .u64 0, .int .u64 0], by kernel_rfl, rfl⟩
@[go_sem] theorem index_num0 (a : Nat) (w : World) : (Instr.index 24 (.agg (nl a).toArray) (.int .i64 0)).run Tryz.prog w = .ok (.int .u64 (wd a 0)) w := by unfold nl; kernel_rfl
@[go_sem] theorem index_num1 (a : Nat) (w : World) : (Instr.index 24 (.agg (nl a).toArray) (.int .i64 1)).run Tryz.prog w = .ok (.int .u64 (wd a 1)) w := by unfold nl; kernel_rfl
@[go_sem] theorem index_num2 (a : Nat) (w : World) : (Instr.index 24 (.agg (nl a).toArray) (.int .i64 2)).run Tryz.prog w = .ok (.int .u64 (wd a 2)) w := by unfold nl; kernel_rfl
@[go_sem] theorem index_num3 (a : Nat) (w : World) : (Instr.index 24 (.agg (nl a).toArray) (.int .i64 3)).run Tryz.prog w = .ok (.int .u64 (wd a 3)) w := by unfold nl; kernel_rfl
theorem xBd : Tryz.prog.follows .mixedOrders = true := by kernel_rfl
theorem xDf : [Value.int .u64 0, .int .u64 0, .int .u64 0, .int .u64 0] = nl 0 := by unfold nl; simp [xDe]
theorem xBe : (Value.agg #[.int .u64 0, .int .u64 0, .int .u64 0, .int .u64 0]) = num 0 := by unfold num; rw [← xDf]
theorem cells_u64 : Tryz.prog.cellsOf 22 = 1 := by kernel_rfl
@[go_sem] theorem equalIn_num (a b : Nat) (w : World) : (Op.equalIn 10000 24 (.agg (nl a).toArray) (.agg (nl b).toArray)).run Tryz.prog w = .ok (eqN a b) w := by
 have hp : ∀ (x i : Nat), i < 4 → ∀ v, (nl x)[i]? = some v → (part 22 (nl x).toArray i).run Tryz.prog w = .ok v w := fun x i hi v hv => by
  have hagg : (isAgg 22).run Tryz.prog w = .ok false w := by
   unfold isAgg
   rw [Sem.run_bind, run_underlying Tryz.underlying22 w]
   rfl
  unfold part
  rw [Sem.run_bind, hagg]
  simp only [Result.andThen_ok, Bool.false_eq_true, if_false, List.getElem?_toArray, hv]
  rfl
 have ho : ∃ i, Tryz.prog.info? 22 = some i := by
  cases h : Tryz.prog.info? 22 with
  | some i => exact ⟨i, rfl⟩
  | none => exact absurd (show (Tryz.prog.info? 22).isSome = true by kernel_rfl) (by rw [h]; decide)
 obtain ⟨i, hi⟩ := ho
 have hu : Tryz.prog.underlying 24 = some (.array 4 22) := Tryz.underlying24
 rw [show (10000 : Nat) = 9999 + 1 from rfl, run_equalIn_array w 9999 (nl a).toArray (nl b).toArray hu hi, cells_u64]
 have he : ∀ x y : Int, (Op.equalIn 9999 22 (.int .u64 x) (.int .u64 y)).run Tryz.prog w = .ok (x == y) w := fun x y => run_equalIn_int w 9998 22 .u64 .u64 x y Tryz.underlying22
 simp only [List.range, List.range.loop, Op.eqItems, Nat.zero_mul, Nat.one_mul, Nat.mul_one, Sem.run_bind, hp a 0 (by omega) _ rfl, hp b 0 (by omega) _ rfl, hp a 1 (by omega) _ rfl, hp b 1 (by omega) _ rfl, hp a 2 (by omega) _ rfl, hp b 2 (by omega) _ rfl,
  hp a 3 (by omega) _ rfl, hp b 3 (by omega) _ rfl, he, Result.andThen_ok, Sem.run_ite, Sem.run_pure]
 by_cases h : a % B = b % B
 ·have e : nl a = nl b := by rw [← nl_mod a, h, nl_mod]
  unfold nl at e
  simp only [List.cons.injEq, Value.int.injEq, true_and, and_true] at e
  obtain ⟨h0, h1, h2, h3⟩ := e
  simp [xIn, h, h0, h1, h2, h3]
 ·have e : ¬ (wd a 0 = wd b 0 ∧ wd a 1 = wd b 1 ∧ wd a 2 = wd b 2 ∧ wd a 3 = wd b 3) := fun ⟨h0, h1, h2, h3⟩ => h (nl_inj (by unfold nl; rw [h0, h1, h2, h3]))
  have ee : eqN a b = false := by simp [xIn, h]
  rw [ee]
  by_cases h0 : wd a 0 = wd b 0 <;> by_cases h1 : wd a 1 = wd b 1 <;> by_cases h2 : wd a 2 = wd b 2 <;> by_cases h3 : wd a 3 = wd b 3 <;> simp_all
section
variable {P : Program} {ops : Array Oper} {rest : List Oper} {o : Oper} {a : Act} {w w0 : World} {Q : Exit → Act → World → Prop} {B0 : Nat} {L L' : List (Nat × Obj)}
theorem aAq {ty : TypeId} {x : Operand} {l : List Value} (hR : Rep B0 w0 L w) (h : ∀ b w', Rep B0 w0 ((b, .cells l.toArray ty) :: L) w' → wpList P ops Q rest (a.put o.dst (.pointer (some ⟨b, 0, none⟩))) w') (hg : o.guard = none := by exact rfl) (ho : o.op = .box ty x := by exact rfl) (hx : (a.eval x).cells = l.toArray := by exact rfl) : wpList P ops Q (o :: rest) a w :=
 xBx hR hg ho hx h
theorem aBq {ty : TypeId} {l : List Value} (hR : Rep B0 w0 L w) (h : ∀ b w', Rep B0 w0 ((b, .cells l.toArray ty) :: L) w' → wpList P ops Q rest (a.put o.dst (.pointer (some ⟨b, 0, none⟩))) w') (hg : o.guard = none := by exact rfl) (ho : o.op = .alloc ty := by exact rfl) (hz : xKf P ty l := by first | ((exact inferInstance); done) | fail) : wpList P ops Q (o :: rest) a w :=
 wpList_allocRep hR hg ho hz h
theorem aEq {ty : TypeId} {x : Operand} {n : Nat} {b : Nat} {l : List Value} {t : TypeId} (hR : Rep B0 w0 L w) (h : wpList P ops Q rest (a.put o.dst (.agg l.toArray)) w) (hg : o.guard = none := by exact rfl) (ho : o.op = .load ty x := by exact rfl) (hx : a.eval x = .pointer (some ⟨b, 0, none⟩) := by exact rfl) (hT : RowT P ty n := by first | ((exact inferInstance); done) | fail) (hm : (b, Obj.cells l.toArray t) ∈ L := by first | ((first | with_reducible assumption | repeat (first | exact .head _ | apply List.Mem.tail)); done) | fail) (hn : l.length = n := by first | ((first | rfl | (simp; done)); done) | fail) : wpList P ops Q (o :: rest) a w :=
 wpList_loadAll hR hg ho hx hT hm hn h
theorem aFq {ty : TypeId} {x y : Operand} {n : Nat} {b : Nat} {l vs : List Value} {t : TypeId} (hR : Rep B0 w0 L w) (h : ∀ w', Rep B0 w0 L' w' → wpList P ops Q rest (a.put o.dst undef) w') (hg : o.guard = none := by exact rfl) (ho : o.op = .store ty x y := by exact rfl) (hx : a.eval x = .pointer (some ⟨b, 0, none⟩) := by exact rfl) (hT : RowT P ty n := by first | ((exact inferInstance); done) | fail) (hy : a.eval y = .agg vs.toArray := by exact rfl) (hs : xBq L b (.cells l.toArray t) (.cells vs.toArray t) L' := by first | ((repeat (first | exact xBq.head | apply xBq.tail)); done) | fail) (h1 : vs.all (·.oneCell') = true := by first | ((first | rfl | with_reducible assumption); done) | fail) (hvn : vs.length = n := by first | ((first | rfl | (simp; done)); done) | fail) (hn : l.length = n := by first | ((first | rfl | (simp; done)); done) | fail) : wpList P ops Q (o :: rest) a w :=
 wpList_storeAll hR hg ho hx hT hy hs h1 hvn hn h
theorem aGq {ty : TypeId} {x : Operand} {b off : Nat} {l : List Value} {v : Value} {t : TypeId} (hR : Rep B0 w0 L w) (h : wpList P ops Q rest (a.put o.dst v) w) (hg : o.guard = none := by exact rfl) (ho : o.op = .load ty x := by exact rfl) (hx : a.eval x = .pointer (some ⟨b, off, none⟩) := by exact rfl) (hT : xDp P ty := by first | ((exact inferInstance); done) | fail) (hm : (b, Obj.cells l.toArray t) ∈ L := by first | ((first | with_reducible assumption | repeat (first | exact .head _ | apply List.Mem.tail)); done) | fail) (hv : l[off]? = some v := by first | ((first | rfl | with_reducible assumption); done) | fail) : wpList P ops Q (o :: rest) a w :=
 xAb hR hg ho hx hT hm hv h
theorem aHq {ty : TypeId} {x y : Operand} {b off : Nat} {l l' : List Value} {v : Value} {t : TypeId} (hR : Rep B0 w0 L w) (h : ∀ w', Rep B0 w0 L' w' → wpList P ops Q rest (a.put o.dst undef) w') (hg : o.guard = none := by exact rfl) (ho : o.op = .store ty x y := by exact rfl) (hx : a.eval x = .pointer (some ⟨b, off, none⟩) := by exact rfl) (hT : xDp P ty := by first | ((exact inferInstance); done) | fail) (hy' : ev a y = some v := by exact rfl) (h1 : v.oneCell' = true := by exact rfl) (hs : xBq L b (.cells l.toArray t) (.cells l'.toArray t) L' := by first | ((repeat (first | exact xBq.head | apply xBq.tail)); done) | fail) (hn : off < l.length := by first | ((first | exact of_decide_eq_true rfl | (show _ < 4; with_reducible assumption) | (simp; first | done | omega)); done) | fail) (hl : l.set off v = l' := by first | ((first | with_reducible assumption | (simp only [nl, kA, kB]; first | done | rfl) | rfl); done) | fail) : wpList P ops Q (o :: rest) a w :=
 wpList_storeCell hR hg ho hx hT hy' h1 hs hn hl h
theorem aMq {ty : TypeId} {x : Operand} {b off : Nat} {l : List Value} {v : Value} {t : TypeId} (hR : Rep B0 w0 L w) (h : wpList P ops Q rest (a.put o.dst v) w) (hg : o.guard = none := by exact rfl) (ho : o.op = .load ty x := by exact rfl) (hx : a.eval x = .pointer (some ⟨b, off, none⟩) := by exact rfl) (hT : xDp P ty := by first | ((exact inferInstance); done) | fail) (hm : (b, Obj.cells l.toArray t) ∈ L := by first | ((first | with_reducible assumption | repeat (first | exact .head _ | with_reducible assumption | apply List.mem_cons_of_mem)); done) | fail) (hv : l[off]? = some v := by first | ((first | rfl | with_reducible assumption); done) | fail) : wpList P ops Q (o :: rest) a w :=
 xAb hR hg ho hx hT hm hv h
theorem aNq {ty : TypeId} {x : Operand} {n : Nat} {b : Nat} {l : List Value} {t : TypeId} (hR : Rep B0 w0 L w) (h : wpList P ops Q rest (a.put o.dst (.agg l.toArray)) w) (hg : o.guard = none := by exact rfl) (ho : o.op = .load ty x := by exact rfl) (hx : a.eval x = .pointer (some ⟨b, 0, none⟩) := by exact rfl) (hT : RowT P ty n := by first | ((exact inferInstance); done) | fail) (hm : (b, Obj.cells l.toArray t) ∈ L := by first | ((first | with_reducible assumption | repeat (first | exact .head _ | with_reducible assumption | apply List.mem_cons_of_mem)); done) | fail) (hn : l.length = n := by first | ((first | rfl | (simp; done)); done) | fail) : wpList P ops Q (o :: rest) a w :=
 wpList_loadAll hR hg ho hx hT hm hn h
theorem aPq {ty : TypeId} {x : Operand} {n : Nat} {b off : Nat} {l vs : List Value} {t : TypeId} (hR : Rep B0 w0 L w) (h : wpList P ops Q rest (a.put o.dst (.agg vs.toArray)) w) (hg : o.guard = none := by exact rfl) (ho : o.op = .load ty x := by exact rfl) (hx : a.eval x = .pointer (some ⟨b, off, none⟩) := by exact rfl) (hT : RowT P ty n := by first | ((exact inferInstance); done) | fail) (hm : (b, Obj.cells l.toArray t) ∈ L := by first | ((first | with_reducible assumption | repeat (first | exact .head _ | with_reducible assumption | apply List.mem_cons_of_mem)); done) | fail) (hv : (l.drop off).take n = vs := by first | ((first | with_reducible assumption | (simp only [kC, kD, kE, kF]; first | done | rfl)); done) | fail) (hn : vs.length = n := by first | ((first | rfl | (simp; done)); done) | fail) : wpList P ops Q (o :: rest) a w :=
 wpList_loadRow hR hg ho hx hT hm hv hn h
theorem aQq {ty : TypeId} {x : Operand} {n : Nat} {b off : Nat} {l vs : List Value} {t : TypeId} (hR : Rep B0 w0 L w) (h : wpList P ops Q rest (a.put o.dst (.agg vs.toArray)) w) (hg : o.guard = none := by exact rfl) (ho : o.op = .load ty x := by exact rfl) (hx : a.eval x = .pointer (some ⟨b, off, none⟩) := by exact rfl) (hT : RowT P ty n := by first | ((exact inferInstance); done) | fail) (hm : (b, Obj.cells l.toArray t) ∈ L := by first | ((first | with_reducible assumption | repeat (first | exact .head _ | apply List.Mem.tail)); done) | fail) (hv : (l.drop off).take n = vs := by first | ((first | with_reducible assumption | (simp only [kC, kD, kE, kF]; first | done | rfl)); done) | fail) (hn : vs.length = n := by first | ((first | rfl | (simp; done)); done) | fail) : wpList P ops Q (o :: rest) a w :=
 wpList_loadRow hR hg ho hx hT hm hv hn h
theorem aRq {ty : TypeId} {x y : Operand} {n : Nat} {b : Nat} {l vs : List Value} {t : TypeId} (hR : Rep B0 w0 L w) (h : ∀ w', Rep B0 w0 L' w' → wpList P ops Q rest (a.put o.dst undef) w') (hg : o.guard = none := by exact rfl) (ho : o.op = .store ty x y := by exact rfl) (hx : a.eval x = .pointer (some ⟨b, 0, none⟩) := by exact rfl) (hT : RowT P ty n := by first | ((exact inferInstance); done) | fail) (hy : a.eval y = .agg vs.toArray := by exact rfl) (hs : xBq L b (.cells l.toArray t) (.cells vs.toArray t) L' := by first | ((repeat (first | exact xBq.head | with_reducible assumption | apply xBq.tail)); done) | fail) (h1 : vs.all (·.oneCell') = true := by first | ((first | rfl | with_reducible assumption); done) | fail) (hvn : vs.length = n := by first | ((first | rfl | (simp; done)); done) | fail) (hn : l.length = n := by first | ((first | rfl | (simp; done)); done) | fail) : wpList P ops Q (o :: rest) a w :=
 wpList_storeAll hR hg ho hx hT hy hs h1 hvn hn h
theorem aUq {ty : TypeId} {x y : Operand} {b off : Nat} {l l' : List Value} {v : Value} {t : TypeId} (hR : Rep B0 w0 L w) (h : ∀ w', Rep B0 w0 L' w' → wpList P ops Q rest (a.put o.dst undef) w') (hg : o.guard = none := by exact rfl) (ho : o.op = .store ty x y := by exact rfl) (hx : a.eval x = .pointer (some ⟨b, off, none⟩) := by exact rfl) (hT : xDp P ty := by first | ((exact inferInstance); done) | fail) (hy' : ev a y = some v := by exact rfl) (h1 : v.oneCell' = true := by exact rfl) (hs : xBq L b (.cells l.toArray t) (.cells l'.toArray t) L' := by first | ((repeat (first | exact xBq.head | with_reducible assumption | apply xBq.tail)); done) | fail) (hn : off < l.length := by first | ((first | exact of_decide_eq_true rfl | (show _ < 4; with_reducible assumption) | (simp; first | done | omega)); done) | fail) (hl : l.set off v = l' := by first | ((first | with_reducible assumption | (simp only [nl, kA, kB]; first | done | rfl) | rfl); done) | fail) : wpList P ops Q (o :: rest) a w :=
 wpList_storeCell hR hg ho hx hT hy' h1 hs hn hl h
theorem aYq {ty : TypeId} {x y : Operand} {b off : Nat} {l l' : List Value} {v : Value} {t : TypeId} (hR : Rep B0 w0 L w) (hn : off < l.length) (h : ∀ w', Rep B0 w0 L' w' → wpList P ops Q rest (a.put o.dst undef) w') (hg : o.guard = none := by exact rfl) (ho : o.op = .store ty x y := by exact rfl) (hx : a.eval x = .pointer (some ⟨b, off, none⟩) := by exact rfl) (hT : xDp P ty := by first | ((exact inferInstance); done) | fail) (hy' : ev a y = some v := by exact rfl) (h1 : v.oneCell' = true := by exact rfl) (hs : xBq L b (.cells l.toArray t) (.cells l'.toArray t) L' := by first | ((exact xBq.tail (xBq.tail xBq.head)); done) | fail) (hl : l.set off v = l' := by exact rfl) : wpList P ops Q (o :: rest) a w :=
 wpList_storeCell hR hg ho hx hT hy' h1 hs hn hl h
end
section
variable {P : Program} {ops : Array Oper} {B0 : Nat} {w0 : World} {L L' : List (Nat × Obj)} {ts : List Nat} {r acc : List Oper} {o : Oper} {a : Act} {K : List Oper → Act → Prop} {I : (World → Prop) → Prop} {C : World → Prop} {Q : Exit → Act → World → Prop} {Kp : List (Nat × Obj)}
theorem aCq {ty : TypeId} {x : Operand} {b off : Nat} {l : List Value} {v : Value} {t : TypeId} {a' : Act} (ha : a.put o.dst v = a') (h : xBn P ops I (Rep B0 w0 L) K ts r acc a') (hw : Region.wanted o (yielded ops a.tmps) = true := by exact rfl) (hop : o.op = .load ty x := by exact rfl) (hx : a.eval x = .pointer (some ⟨b, off, none⟩) := by exact rfl) (hT : xDp P ty := by first | ((exact inferInstance); done) | fail) (hm : (b, Obj.cells l.toArray t) ∈ L := by first | ((first | with_reducible assumption | repeat (first | exact .head _ | apply List.Mem.tail)); done) | fail) (hv : l[off]? = some v := by first | ((first | rfl | with_reducible assumption); done) | fail) : xBn P ops I (Rep B0 w0 L) K (0 :: ts) (o :: r) acc a :=
 hd_loadCell hw hop hx hT hm hv ha h
theorem aDq {ty : TypeId} {x y : Operand} {b off : Nat} {l l' : List Value} {v : Value} {t : TypeId} {a' : Act} (hk : ∀ p, p ∈ Kp → p ∈ L') (ha : a.put o.dst undef = a') (h : xFe P ops (xDa B0 w0 Kp) Q r (Rep B0 w0 L') a') (hw : Region.wanted o (yielded ops a.tmps) = true := by exact rfl) (hop : o.op = .store ty x y := by exact rfl) (hx : a.eval x = .pointer (some ⟨b, off, none⟩) := by exact rfl) (hT : xDp P ty := by first | ((exact inferInstance); done) | fail) (hy' : ev a y = some v := by exact rfl) (h1 : v.oneCell' = true := by exact rfl) (hs : xBq L b (.cells l.toArray t) (.cells l'.toArray t) L' := by first | ((repeat (first | exact xBq.head | apply xBq.tail)); done) | fail) (hn : off < l.length := by first | ((first | exact of_decide_eq_true rfl | (show _ < 4; with_reducible assumption) | (simp; first | done | omega)); done) | fail) (hl : l.set off v = l' := by first | ((first | with_reducible assumption | (simp only [nl, kA, kB]; first | done | rfl) | rfl); done) | fail) : xFe P ops (xDa B0 w0 Kp) Q (o :: r) (Rep B0 w0 L) a :=
 tl_storeCell hw hop hx hT hy' h1 hs hn hl hk ha h
theorem aIq {ty : TypeId} {x : Operand} {n : Nat} {b : Nat} {l : List Value} {t : TypeId} {a' : Act} (ha : a.put o.dst (.agg l.toArray) = a') (h : xBn P ops I (Rep B0 w0 L) K ts r acc a') (hw : Region.wanted o (yielded ops a.tmps) = true := by exact rfl) (hop : o.op = .load ty x := by exact rfl) (hx : a.eval x = .pointer (some ⟨b, 0, none⟩) := by exact rfl) (hT : RowT P ty n := by first | ((exact inferInstance); done) | fail) (hm : (b, Obj.cells l.toArray t) ∈ L := by first | ((first | with_reducible assumption | repeat (first | exact .head _ | apply List.Mem.tail)); done) | fail) (hn : l.length = n := by first | ((first | rfl | (simp; done)); done) | fail) : xBn P ops I (Rep B0 w0 L) K (0 :: ts) (o :: r) acc a :=
 hd_loadAll hw hop hx hT hm hn ha h
theorem aJq {ty : TypeId} {x : Operand} {n : Nat} {b off : Nat} {l vs : List Value} {t : TypeId} {a' : Act} (ha : a.put o.dst (.agg vs.toArray) = a') (h : xBn P ops (xDa B0 w0 Kp) C K ts r acc a') (hw : Region.wanted o (yielded ops a.tmps) = true := by exact rfl) (hop : o.op = .load ty x := by exact rfl) (hx : a.eval x = .pointer (some ⟨b, off, none⟩) := by exact rfl) (hT : RowT P ty n := by first | ((exact inferInstance); done) | fail) (hm : (b, Obj.cells l.toArray t) ∈ Kp := by first | ((first | with_reducible assumption | repeat (first | exact .head _ | apply List.Mem.tail)); done) | fail) (hv : (l.drop off).take n = vs := by first | ((first | with_reducible assumption | (simp only [kC, kD, kE, kF]; first | done | rfl)); done) | fail) (hn : vs.length = n := by first | ((first | rfl | (simp; done)); done) | fail) : xBn P ops (xDa B0 w0 Kp) C K (1 :: ts) (o :: r) acc a :=
 hd_keepRow hw hop hx hT hm hv hn ha h
theorem aKq {ty : TypeId} {x y : Operand} {n : Nat} {b : Nat} {l vs : List Value} {t : TypeId} {a' : Act} (hk : ∀ p, p ∈ Kp → p ∈ L') (ha : a.put o.dst undef = a') (h : xFe P ops (xDa B0 w0 Kp) Q r (Rep B0 w0 L') a') (hw : Region.wanted o (yielded ops a.tmps) = true := by exact rfl) (hop : o.op = .store ty x y := by exact rfl) (hx : a.eval x = .pointer (some ⟨b, 0, none⟩) := by exact rfl) (hT : RowT P ty n := by first | ((exact inferInstance); done) | fail) (hy : a.eval y = .agg vs.toArray := by exact rfl) (hs : xBq L b (.cells l.toArray t) (.cells vs.toArray t) L' := by first | ((repeat (first | exact xBq.head | apply xBq.tail)); done) | fail) (h1 : vs.all (·.oneCell') = true := by exact rfl) (hvn : vs.length = n := by exact rfl) (hn : l.length = n := by first | ((first | rfl | (simp; done)); done) | fail) : xFe P ops (xDa B0 w0 Kp) Q (o :: r) (Rep B0 w0 L) a :=
 tl_storeAll hw hop hx hT hy hs h1 hvn hn hk ha h
theorem aLq {ty : TypeId} {x : Operand} {n : Nat} {b off : Nat} {l vs : List Value} {t : TypeId} {a' : Act} (ha : a.put o.dst (.agg vs.toArray) = a') (h : xBn P ops I (Rep B0 w0 L) K ts r acc a') (hw : Region.wanted o (yielded ops a.tmps) = true := by exact rfl) (hop : o.op = .load ty x := by exact rfl) (hx : a.eval x = .pointer (some ⟨b, off, none⟩) := by exact rfl) (hT : RowT P ty n := by first | ((exact inferInstance); done) | fail) (hm : (b, Obj.cells l.toArray t) ∈ L := by first | ((first | with_reducible assumption | repeat (first | exact .head _ | apply List.Mem.tail)); done) | fail) (hv : (l.drop off).take n = vs := by first | ((first | with_reducible assumption | (simp only [kC, kD, kE, kF]; first | done | rfl)); done) | fail) (hn : vs.length = n := by first | ((first | rfl | (simp; done)); done) | fail) : xBn P ops I (Rep B0 w0 L) K (0 :: ts) (o :: r) acc a :=
 hd_loadRow hw hop hx hT hm hv hn ha h
theorem aOq {ty : TypeId} {x : Operand} {n : Nat} {b : Nat} {l : List Value} {t : TypeId} {a' : Act} (ha : a.put o.dst (.agg l.toArray) = a') (h : xBn P ops I (Rep B0 w0 L) K ts r acc a') (hw : Region.wanted o (yielded ops a.tmps) = true := by exact rfl) (hop : o.op = .load ty x := by exact rfl) (hx : a.eval x = .pointer (some ⟨b, 0, none⟩) := by exact rfl) (hT : RowT P ty n := by first | ((exact inferInstance); done) | fail) (hm : (b, Obj.cells l.toArray t) ∈ L := by first | ((first | with_reducible assumption | repeat (first | exact .head _ | with_reducible assumption | apply List.mem_cons_of_mem)); done) | fail) (hn : l.length = n := by first | ((first | rfl | (simp; done)); done) | fail) : xBn P ops I (Rep B0 w0 L) K (0 :: ts) (o :: r) acc a :=
 hd_loadAll hw hop hx hT hm hn ha h
theorem aSq {ty : TypeId} {x : Operand} {n : Nat} {b off : Nat} {l vs : List Value} {t : TypeId} {a' : Act} (ha : a.put o.dst (.agg vs.toArray) = a') (h : xBn P ops I (Rep B0 w0 L) K ts r acc a') (hw : Region.wanted o (yielded ops a.tmps) = true := by exact rfl) (hop : o.op = .load ty x := by exact rfl) (hx : a.eval x = .pointer (some ⟨b, off, none⟩) := by exact rfl) (hT : RowT P ty n := by first | ((exact inferInstance); done) | fail) (hm : (b, Obj.cells l.toArray t) ∈ L := by first | ((first | with_reducible assumption | repeat (first | exact .head _ | with_reducible assumption | apply List.mem_cons_of_mem)); done) | fail) (hv : (l.drop off).take n = vs := by first | ((first | with_reducible assumption | (simp only [kC, kD, kE, kF]; first | done | rfl)); done) | fail) (hn : vs.length = n := by first | ((first | rfl | (simp; done)); done) | fail) : xBn P ops I (Rep B0 w0 L) K (0 :: ts) (o :: r) acc a :=
 hd_loadRow hw hop hx hT hm hv hn ha h
theorem aTq {ty : TypeId} {x y : Operand} {n : Nat} {b : Nat} {l vs : List Value} {t : TypeId} {a' : Act} (hk : ∀ p, p ∈ Kp → p ∈ L') (ha : a.put o.dst undef = a') (h : xFe P ops (xDa B0 w0 Kp) Q r (Rep B0 w0 L') a') (hw : Region.wanted o (yielded ops a.tmps) = true := by exact rfl) (hop : o.op = .store ty x y := by exact rfl) (hx : a.eval x = .pointer (some ⟨b, 0, none⟩) := by exact rfl) (hT : RowT P ty n := by first | ((exact inferInstance); done) | fail) (hy : a.eval y = .agg vs.toArray := by exact rfl) (hs : xBq L b (.cells l.toArray t) (.cells vs.toArray t) L' := by first | ((repeat (first | exact xBq.head | with_reducible assumption | apply xBq.tail)); done) | fail) (h1 : vs.all (·.oneCell') = true := by exact rfl) (hvn : vs.length = n := by exact rfl) (hn : l.length = n := by first | ((first | rfl | (simp; done)); done) | fail) : xFe P ops (xDa B0 w0 Kp) Q (o :: r) (Rep B0 w0 L) a :=
 tl_storeAll hw hop hx hT hy hs h1 hvn hn hk ha h
theorem aWq {ty : TypeId} {x : Operand} {n : Nat} {b off : Nat} {l vs : List Value} {t : TypeId} {a' : Act} (ha : a.put o.dst (.agg vs.toArray) = a') (h : xBn P ops (xDa B0 w0 Kp) C K ts r acc a') (hw : Region.wanted o (yielded ops a.tmps) = true := by exact rfl) (hop : o.op = .load ty x := by exact rfl) (hx : a.eval x = .pointer (some ⟨b, off, none⟩) := by exact rfl) (hT : RowT P ty n := by first | ((exact inferInstance); done) | fail) (hm : (b, Obj.cells l.toArray t) ∈ Kp := by first | ((first | with_reducible assumption | repeat (first | exact .head _ | with_reducible assumption | apply List.mem_cons_of_mem)); done) | fail) (hv : (l.drop off).take n = vs := by first | ((first | with_reducible assumption | (simp only [kC, kD, kE, kF]; first | done | rfl)); done) | fail) (hn : vs.length = n := by first | ((first | rfl | (simp; done)); done) | fail) : xBn P ops (xDa B0 w0 Kp) C K (1 :: ts) (o :: r) acc a :=
 hd_keepRow hw hop hx hT hm hv hn ha h
theorem aXq {ty : TypeId} {x : Operand} {b off : Nat} {l : List Value} {v : Value} {t : TypeId} {a' : Act} (ha : a.put o.dst v = a') (h : xBn P ops I (Rep B0 w0 L) K ts r acc a') (hw : Region.wanted o (yielded ops a.tmps) = true := by exact rfl) (hop : o.op = .load ty x := by exact rfl) (hx : a.eval x = .pointer (some ⟨b, off, none⟩) := by exact rfl) (hT : xDp P ty := by first | ((exact inferInstance); done) | fail) (hm : (b, Obj.cells l.toArray t) ∈ L := by first | ((first | with_reducible assumption | repeat (first | exact .head _ | with_reducible assumption | apply List.mem_cons_of_mem)); done) | fail) (hv : l[off]? = some v := by first | ((first | rfl | with_reducible assumption); done) | fail) : xBn P ops I (Rep B0 w0 L) K (0 :: ts) (o :: r) acc a :=
 hd_loadCell hw hop hx hT hm hv ha h
theorem aAr {ty : TypeId} {x : Operand} {b off : Nat} {l : List Value} {v : Value} {t : TypeId} {a' : Act} (ha : a.put o.dst v = a') (h : xBn P ops (xDa B0 w0 Kp) C K ts r acc a') (hw : Region.wanted o (yielded ops a.tmps) = true := by exact rfl) (hop : o.op = .load ty x := by exact rfl) (hx : a.eval x = .pointer (some ⟨b, off, none⟩) := by exact rfl) (hT : xDp P ty := by first | ((exact inferInstance); done) | fail) (hm : (b, Obj.cells l.toArray t) ∈ Kp := by first | ((first | with_reducible assumption | repeat (first | exact .head _ | with_reducible assumption | apply List.mem_cons_of_mem)); done) | fail) (hv : l[off]? = some v := by first | ((first | rfl | with_reducible assumption); done) | fail) : xBn P ops (xDa B0 w0 Kp) C K (1 :: ts) (o :: r) acc a :=
 hd_keepCell hw hop hx hT hm hv ha h
theorem aEr {ty : TypeId} {x y : Operand} {b off : Nat} {l l' : List Value} {v : Value} {t : TypeId} {a' : Act} (hk : ∀ p, p ∈ Kp → p ∈ L') (ha : a.put o.dst undef = a') (h : xFe P ops (xDa B0 w0 Kp) Q r (Rep B0 w0 L') a') (hw : Region.wanted o (yielded ops a.tmps) = true := by exact rfl) (hop : o.op = .store ty x y := by exact rfl) (hx : a.eval x = .pointer (some ⟨b, off, none⟩) := by exact rfl) (hT : xDp P ty := by first | ((exact inferInstance); done) | fail) (hy' : ev a y = some v := by exact rfl) (h1 : v.oneCell' = true := by exact rfl) (hs : xBq L b (.cells l.toArray t) (.cells l'.toArray t) L' := by first | ((repeat (first | exact xBq.head | with_reducible assumption | apply xBq.tail)); done) | fail) (hn : off < l.length := by first | ((first | exact of_decide_eq_true rfl | (show _ < 4; with_reducible assumption) | (simp; first | done | omega)); done) | fail) (hl : l.set off v = l' := by first | ((first | with_reducible assumption | (simp only [nl, kA, kB]; first | done | rfl) | rfl); done) | fail) : xFe P ops (xDa B0 w0 Kp) Q (o :: r) (Rep B0 w0 L) a :=
 tl_storeCell hw hop hx hT hy' h1 hs hn hl hk ha h
theorem aFr {ty : TypeId} {x y : Operand} {n : Nat} {b off : Nat} {l l' vs : List Value} {t : TypeId} {a' : Act} (hk : ∀ p, p ∈ Kp → p ∈ L') (ha : a.put o.dst undef = a') (h : xFe P ops (xDa B0 w0 Kp) Q r (Rep B0 w0 L') a') (hw : Region.wanted o (yielded ops a.tmps) = true := by exact rfl) (hop : o.op = .store ty x y := by exact rfl) (hx : a.eval x = .pointer (some ⟨b, off, none⟩) := by exact rfl) (hT : RowT P ty n := by first | ((exact inferInstance); done) | fail) (hy : a.eval y = .agg vs.toArray := by exact rfl) (h1 : vs.all (·.oneCell') = true := by exact rfl) (hvn : vs.length = n := by first | ((first | rfl | (simp; done)); done) | fail) (hs : xBq L b (.cells l.toArray t) (.cells l'.toArray t) L' := by first | ((repeat (first | exact xBq.head | with_reducible assumption | apply xBq.tail)); done) | fail) (hn : off + n ≤ l.length := by first | ((first | exact of_decide_eq_true rfl | (show _ < 4; with_reducible assumption) | (simp; first | done | omega)); done) | fail) (hl : l.take off ++ vs ++ l.drop (off + n) = l' := by first | ((first | with_reducible assumption | (simp only [nl, kA, kB]; first | done | rfl) | rfl); done) | fail) : xFe P ops (xDa B0 w0 Kp) Q (o :: r) (Rep B0 w0 L) a :=
 tl_storeRow hw hop hx hT hy h1 hvn hs hn hl hk ha h
end
end
section
open Go.ChangeShapes Go.WideShapes Go.ChangeAt Go.RowKit
noncomputable def numD {H : Type} (a : Nat) : DataW H := .agg [.lit (.int .u64 (wd a 0)), .lit (.int .u64 (wd a 1)), .lit (.int .u64 (wd a 2)), .lit (.int .u64 (wd a 3))]
theorem cells_num : Tryz.prog.cellsOf 24 = 4 := by kernel_rfl
theorem wf_u64 {x : Int} (h : (Lit.int .u64 x).wf = true) : 0 ≤ x ∧ x < 18446744073709551616 := by
 simp [Lit.wf, IntKind.min, IntKind.max, IntKind.signed, IntKind.bits] at h
 exact ⟨by omega, by omega⟩
theorem wf_wd (a i : Nat) : (Lit.int .u64 (wd a i)).wf = true := by
 have h1 := xDz a i
 have h2 := xEk a i
 simp [Lit.wf, IntKind.min, IntKind.max, IntKind.signed, IntKind.bits]
 exact ⟨h1, by omega⟩
end
section
theorem add64 (x y c : Int) (hx : 0 ≤ x) (hy : 0 ≤ y) (hc0 : 0 ≤ c) (hc : c ≤ 1) (w : World) : (callFunc 224 #[.int .u64 x, .int .u64 y, .int .u64 c]).run Tryz.prog w =
  .ok (.value (.tuple #[.int .u64 ((x + y + c) % 18446744073709551616), .int .u64 ((x + y + c) / 18446744073709551616)])) w := by
 rw [run_callFunc_extern Tryz.func224 (by kernel_rfl) (by kernel_rfl) (by kernel_rfl) (e := add64Entry) (by kernel_rfl), run_add64 x y c (by omega) (by omega) (by omega) (by omega)]
 rfl
noncomputable def sm : Int → Int → Int → Int := opq fun x y c => (x + y + c) % 18446744073709551616
noncomputable def ca : Int → Int → Int → Int := opq fun x y c => (x + y + c) / 18446744073709551616
noncomputable def df : Int → Int → Int → Int := opq fun x y c => (x - y - c) % 18446744073709551616
theorem sm_def (x y c : Int) : sm x y c = (x + y + c) % 18446744073709551616 := by unfold sm; rw [xBs]
theorem ca_def (x y c : Int) : ca x y c = (x + y + c) / 18446744073709551616 := by unfold ca; rw [xBs]
theorem df_def (x y c : Int) : df x y c = (x - y - c) % 18446744073709551616 := by unfold df; rw [xBs]
theorem ca_lo (x y c : Int) (hx : 0 ≤ x) (hy : 0 ≤ y) (hc : 0 ≤ c) : 0 ≤ ca x y c := by rw [ca_def]; omega
theorem ca_hi (x y c : Int) (hx : x < 18446744073709551616) (hy : y < 18446744073709551616) (hc : c ≤ 1) : ca x y c ≤ 1 := by rw [ca_def]; omega
theorem add64' (x y c : Int) (hx : 0 ≤ x) (hy : 0 ≤ y) (hc0 : 0 ≤ c) (hc : c ≤ 1) (w : World) : (callFunc 224 #[.int .u64 x, .int .u64 y, .int .u64 c]).run Tryz.prog w =
  .ok (.value (.tuple #[.int .u64 (sm x y c), .int .u64 (ca x y c)])) w := by rw [sm_def, ca_def]; exact add64 x y c hx hy hc0 hc w
def sub64Row : Array Value → Sem Value := fun args => do
 let (x, y, b) ← Extern.MathBitsCarry.three "Sub64" args
 pure (Extern.MathBitsCarry.pair ((x + Extern.MathBitsCarry.m64 - y - b) % Extern.MathBitsCarry.m64) (if x < y + b then 1 else 0))
theorem run_sub64Row {P : Program} (x y b : Nat) (hb : b ≤ 1) (w : World) :
  (sub64Row #[.int .u64 x, .int .u64 y, .int .u64 b]).run P w = .ok (.tuple #[.int .u64 (((x + 18446744073709551616 - y - b) % 18446744073709551616 : Nat) : Int), .int .u64 ((if x < y + b then 1 else 0 : Nat) : Int)]) w := by
 have : b = 0 ∨ b = 1 := by omega
 rcases this with rfl | rfl <;> rfl
noncomputable def bor : Int → Int → Int := opq fun x y => if x < y then 1 else 0
theorem xDo (x y : Int) : bor x y = if x < y then 1 else 0 := by unfold bor; rw [xBs]
theorem bor_lo (x y : Int) : 0 ≤ bor x y := by rw [xDo]; split <;> decide
theorem bor_hi (x y : Int) : bor x y ≤ 1 := by rw [xDo]; split <;> decide
theorem sub64 (x y b : Int) (hx : 0 ≤ x) (hy : 0 ≤ y) (hy' : y < 18446744073709551616) (hb0 : 0 ≤ b) (hb : b ≤ 1) (w : World) : (callFunc 225 #[.int .u64 x, .int .u64 y, .int .u64 b]).run Tryz.prog w =
  .ok (.value (.tuple #[.int .u64 ((x - y - b) % 18446744073709551616), .int .u64 (bor x (y + b))])) w := by
 obtain ⟨x, rfl⟩ := Int.eq_ofNat_of_zero_le hx
 obtain ⟨y, rfl⟩ := Int.eq_ofNat_of_zero_le hy
 obtain ⟨b, rfl⟩ := Int.eq_ofNat_of_zero_le hb0
 rw [run_callFunc_extern Tryz.func225 (by kernel_rfl) (by kernel_rfl) (by kernel_rfl) (e := sub64Row) (by kernel_rfl), run_sub64Row x y b (by omega)]
 have e1 : (((x + 18446744073709551616 - y - b) % 18446744073709551616 : Nat) : Int) = ((x : Int) - y - b) % 18446744073709551616 := by omega
 have e2 : ((if x < y + b then 1 else 0 : Nat) : Int) = bor (x : Int) (y + b) := by rw [xDo]; split <;> split <;> omega
 rw [← e1, ← e2]
 rfl
theorem four (a : Nat) (h : a < B) : (a : Int) = wd a 0 + 18446744073709551616 * (wd a 1 + 18446744073709551616 * (wd a 2 + 18446744073709551616 * wd a 3)) := by
 have h1 := xEz a
 rw [Nat.mod_eq_of_lt h] at h1
 simp only [xFm]
 unfold ofW at h1
 omega
theorem nl_eq (n : Nat) (a b c d : Int) (ha : 0 ≤ a ∧ a < 18446744073709551616) (hb : 0 ≤ b ∧ b < 18446744073709551616) (hc : 0 ≤ c ∧ c < 18446744073709551616) (hd : 0 ≤ d ∧ d < 18446744073709551616)
  (k : Int) (h : (n : Int) = a + 18446744073709551616 * (b + 18446744073709551616 * (c + 18446744073709551616 * d)) + k * B) : [Value.int .u64 a, .int .u64 b, .int .u64 c, .int .u64 d] = nl n := by
 rw [nl_of a b c d ha hb hc hd, ← nl_mod n]
 have hlt := ofW_lt a.toNat b.toNat c.toNat d.toNat (by omega) (by omega) (by omega) (by omega)
 congr 1
 have e : (ofW a.toNat b.toNat c.toNat d.toNat : Int) = a + 18446744073709551616 * (b + 18446744073709551616 * (c + 18446744073709551616 * d)) := by unfold ofW; omega
 have e2 : ((n % B : Nat) : Int) = (ofW a.toNat b.toNat c.toNat d.toNat : Int) := by
  rw [Int.natCast_emod, h, Int.add_mul_emod_self_right, ← e]
  exact Int.emod_eq_of_lt (by omega) (by omega)
 omega
theorem nl_add (a b : Nat) (ha : a < B) (hb : b < B) (c1 c2 c3 c4 : Int) (h1 : c1 = (wd a 0 + wd b 0) / 18446744073709551616) (h2 : c2 = (wd a 1 + wd b 1 + c1) / 18446744073709551616) (h3 : c3 = (wd a 2 + wd b 2 + c2) / 18446744073709551616)
  (h4 : c4 = (wd a 3 + wd b 3 + c3) / 18446744073709551616) :
  [Value.int .u64 ((wd a 0 + wd b 0) % 18446744073709551616), .int .u64 ((wd a 1 + wd b 1 + c1) % 18446744073709551616), .int .u64 ((wd a 2 + wd b 2 + c2) % 18446744073709551616), .int .u64 ((wd a 3 + wd b 3 + c3) % 18446744073709551616)] = nl (a + b) ∧ c4 = (((a + b) / B : Nat) : Int) := by
 have ea := four a ha
 have eb := four b hb
 have hB : (B : Int) = 18446744073709551616 * 18446744073709551616 * 18446744073709551616 * 18446744073709551616 := by rw [B_eq]; rfl
 have l := fun i => xDz a i
 have u := fun i => xEk a i
 have l' := fun i => xDz b i
 have u' := fun i => xEk b i
 have a0 := l 0; have a1 := l 1; have a2 := l 2; have a3 := l 3; have A0 := u 0; have A1 := u 1; have A2 := u 2; have A3 := u 3
 have b0 := l' 0; have b1 := l' 1; have b2 := l' 2; have b3 := l' 3; have B0 := u' 0; have B1 := u' 1; have B2 := u' 2; have B3 := u' 3
 clear l u l' u'
 have key : ((a + b : Nat) : Int) = (wd a 0 + wd b 0) % 18446744073709551616 + 18446744073709551616 * ((wd a 1 + wd b 1 + c1) % 18446744073709551616 + 18446744073709551616 * ((wd a 2 + wd b 2 + c2) % 18446744073709551616 + 18446744073709551616 * ((wd a 3 + wd b 3 + c3) % 18446744073709551616))) + c4 * B := by
  rw [hB]; omega
 refine ⟨nl_eq _ _ _ _ _ (by omega) (by omega) (by omega) (by omega) c4 key, ?_⟩
 rw [Int.natCast_ediv, key]
 have q : 0 ≤ (wd a 0 + wd b 0) % 18446744073709551616 + 18446744073709551616 * ((wd a 1 + wd b 1 + c1) % 18446744073709551616 + 18446744073709551616 * ((wd a 2 + wd b 2 + c2) % 18446744073709551616 + 18446744073709551616 * ((wd a 3 + wd b 3 + c3) % 18446744073709551616))) ∧
   (wd a 0 + wd b 0) % 18446744073709551616 + 18446744073709551616 * ((wd a 1 + wd b 1 + c1) % 18446744073709551616 + 18446744073709551616 * ((wd a 2 + wd b 2 + c2) % 18446744073709551616 + 18446744073709551616 * ((wd a 3 + wd b 3 + c3) % 18446744073709551616))) < B := by rw [hB]; omega
 rw [Int.add_mul_ediv_right _ _ (by rw [hB]; decide), Int.ediv_eq_zero_of_lt q.1 q.2]
 omega
theorem bor_mod (x y c : Int) (h1 : 0 ≤ x) (h2 : x < 18446744073709551616) (h3 : 0 ≤ y) (h4 : y < 18446744073709551616) (h5 : 0 ≤ c) (h6 : c ≤ 1) :
  (x - y - c) % 18446744073709551616 = x - y - c + 18446744073709551616 * bor x (y + c) ∧ 0 ≤ bor x (y + c) ∧ bor x (y + c) ≤ 1 := by
 rw [xDo]; split <;> omega
theorem sub_core (a b B x0 x1 x2 x3 y0 y1 y2 y3 r0 r1 r2 r3 c1 c2 c3 c4 : Int) (hB : B = 18446744073709551616 * 18446744073709551616 * 18446744073709551616 * 18446744073709551616)
  (ea : a = x0 + 18446744073709551616 * (x1 + 18446744073709551616 * (x2 + 18446744073709551616 * x3))) (eb : b = y0 + 18446744073709551616 * (y1 + 18446744073709551616 * (y2 + 18446744073709551616 * y3)))
  (d1 : r0 = x0 - y0 + 18446744073709551616 * c1) (d2 : r1 = x1 - y1 - c1 + 18446744073709551616 * c2) (d3 : r2 = x2 - y2 - c2 + 18446744073709551616 * c3) (d4 : r3 = x3 - y3 - c3 + 18446744073709551616 * c4)
  (l0 : 0 ≤ r0 ∧ r0 < 18446744073709551616) (l1 : 0 ≤ r1 ∧ r1 < 18446744073709551616) (l2 : 0 ≤ r2 ∧ r2 < 18446744073709551616) (l3 : 0 ≤ r3 ∧ r3 < 18446744073709551616) (hc : c4 = 0 ∨ c4 = 1) :
  a + B - b = r0 + 18446744073709551616 * (r1 + 18446744073709551616 * (r2 + 18446744073709551616 * r3)) + (1 - c4) * B ∧ c4 = bor a b := by
 have e : a - b = r0 + 18446744073709551616 * (r1 + 18446744073709551616 * (r2 + 18446744073709551616 * r3)) - c4 * B := by
  rcases hc with rfl | rfl <;> omega
 have q : 0 ≤ r0 + 18446744073709551616 * (r1 + 18446744073709551616 * (r2 + 18446744073709551616 * r3)) ∧ r0 + 18446744073709551616 * (r1 + 18446744073709551616 * (r2 + 18446744073709551616 * r3)) < B := by omega
 clear ea eb d1 d2 d3 d4 l0 l1 l2 l3
 generalize r0 + 18446744073709551616 * (r1 + 18446744073709551616 * (r2 + 18446744073709551616 * r3)) = r at *
 rw [xDo]
 rcases hc with rfl | rfl
 ·refine ⟨by omega, ?_⟩; rw [if_neg (by omega)]
 ·refine ⟨by omega, ?_⟩; rw [if_pos (by omega)]
theorem nl_sub (a b : Nat) (ha : a < B) (hb : b < B) (c1 c2 c3 c4 : Int) (h1 : c1 = bor (wd a 0) (wd b 0)) (h2 : c2 = bor (wd a 1) (wd b 1 + c1)) (h3 : c3 = bor (wd a 2) (wd b 2 + c2)) (h4 : c4 = bor (wd a 3) (wd b 3 + c3)) :
  [Value.int .u64 ((wd a 0 - wd b 0) % 18446744073709551616), .int .u64 ((wd a 1 - wd b 1 - c1) % 18446744073709551616), .int .u64 ((wd a 2 - wd b 2 - c2) % 18446744073709551616), .int .u64 ((wd a 3 - wd b 3 - c3) % 18446744073709551616)] = nl (a + B - b) ∧ c4 = bor a b := by
 have hB : (B : Int) = 18446744073709551616 * 18446744073709551616 * 18446744073709551616 * 18446744073709551616 := by rw [B_eq]; rfl
 have d1 := bor_mod (wd a 0) (wd b 0) 0 (xDz _ _) (xEk _ _) (xDz _ _) (xEk _ _) (by decide) (by decide)
 simp only [Int.sub_zero, Int.add_zero] at d1
 rw [← h1] at d1
 have d2 := bor_mod (wd a 1) (wd b 1) c1 (xDz _ _) (xEk _ _) (xDz _ _) (xEk _ _) d1.2.1 d1.2.2
 rw [← h2] at d2
 have d3 := bor_mod (wd a 2) (wd b 2) c2 (xDz _ _) (xEk _ _) (xDz _ _) (xEk _ _) d2.2.1 d2.2.2
 rw [← h3] at d3
 have d4 := bor_mod (wd a 3) (wd b 3) c3 (xDz _ _) (xEk _ _) (xDz _ _) (xEk _ _) d3.2.1 d3.2.2
 rw [← h4] at d4
 have m : ∀ x : Int, 0 ≤ x % 18446744073709551616 ∧ x % 18446744073709551616 < 18446744073709551616 := fun x => by omega
 obtain ⟨k1, k2⟩ := sub_core a b B _ _ _ _ _ _ _ _ _ _ _ _ c1 c2 c3 c4 hB (four a ha) (four b hb) d1.1 d2.1 d3.1 d4.1 (m _) (m _) (m _) (m _) (by have := d4.2; omega)
 refine ⟨nl_eq _ _ _ _ _ (m _) (m _) (m _) (m _) (1 - c4) ?_, k2⟩
 rw [← k1]
 omega
noncomputable def bw : Int → Int → Int → Int := opq fun x y c => bor x (y + c)
theorem bw_def (x y c : Int) : bw x y c = bor x (y + c) := by unfold bw; rw [xBs]
theorem bw_lo (x y c : Int) : 0 ≤ bw x y c := by rw [bw_def]; exact bor_lo _ _
theorem bw_hi (x y c : Int) : bw x y c ≤ 1 := by rw [bw_def]; exact bor_hi _ _
theorem sub64' (x y b : Int) (hx : 0 ≤ x) (hy : 0 ≤ y) (hy' : y < 18446744073709551616) (hb0 : 0 ≤ b) (hb : b ≤ 1) (w : World) : (callFunc 225 #[.int .u64 x, .int .u64 y, .int .u64 b]).run Tryz.prog w =
  .ok (.value (.tuple #[.int .u64 (df x y b), .int .u64 (bw x y b)])) w := by rw [df_def, bw_def]; exact sub64 x y b hx hy hy' hb0 hb w
end
section
structure Held (p : Prop) : Prop where
 out : p
def xGq : List Bool → List Value → List Value → Prop
 | true :: m, _ :: b, _ :: t => xGq m b t
 | false :: m, y :: b, x :: t => x = y ∧ xGq m b t
 | [], [], [] => True
 | _, _, _ => False
theorem xAc {m y b l} (h : xGq (true :: m) (y :: b) l) : ∃ x t, l = x :: t ∧ xGq m b t := by
 cases l with
 | nil => exact h.elim
 | cons x t => exact ⟨x, t, rfl, h⟩
theorem xAa {m y b l} (h : xGq (false :: m) (y :: b) l) : ∃ t, l = y :: t ∧ xGq m b t := by
 cases l with
 | nil => exact h.elim
 | cons x t => exact ⟨t, by rw [h.1], h.2⟩
theorem xAe {l} (h : xGq [] [] l) : l = [] := by
 cases l with
 | nil => rfl
 | cons x t => exact h.elim
def strip : List Bool → List Value → List Value
 | true :: m, _ :: b => undef :: strip m b
 | false :: m, y :: b => y :: strip m b
 | _, _ => []
theorem xAf : ∀ {m b t}, b.length = m.length → t.length = m.length → strip m t = strip m b → xGq m b t
 | [], [], [], _, _, _ => trivial
 | true :: m, _ :: _, _ :: _, h1, h2, h => xAf (m := m) (Nat.succ.inj h1) (Nat.succ.inj h2) (List.cons.inj h).2
 | false :: m, _ :: _, _ :: _, h1, h2, h => ⟨(List.cons.inj h).1, xAf (m := m) (Nat.succ.inj h1) (Nat.succ.inj h2) (List.cons.inj h).2⟩
theorem loop_cut {P : Program} {c : Code} {Q : Exit → Act → World → Prop} {l : List Value} {d : List Deferred} {w : World} (mask : List Bool) (i : Nat) (v : Value) (E : Exit)
  (h1 : ∀ Q' : Exit → Act → World → Prop, Held (∀ tm, xGq mask (l.set i v) tm → Q' E ⟨tm.toArray, d⟩ w) → (Code.loop c).wp P Q' ⟨l.toArray, d⟩ w)
  (h2 : ∀ tm, xGq mask (l.set i v) tm → Q E ⟨tm.toArray, d⟩ w) : (Code.loop c).wp P Q ⟨l.toArray, d⟩ w := h1 Q ⟨h2⟩
theorem xBm {P : Program} {c : Code} {Q : Exit → Act → World → Prop} {l : List Value} {d : List Deferred} {w w0 : World} {B0 : Nat} (mask : List Bool) (upd : Nat → List Value → List Value) (L : Nat → List (Nat × Obj)) (n : Nat)
  (h0 : xGq mask (upd n l) l) (hR : Rep B0 w0 (L n) w)
  (hs : ∀ j tm w, j < n → xGq mask (upd (j + 1) l) tm → Rep B0 w0 (L (j + 1)) w → ∀ K : Act → World → Prop, Held (∀ tm' w', xGq mask (upd j l) tm' → Rep B0 w0 (L j) w' → K ⟨tm'.toArray, d⟩ w') → c.wp P (Exit.then K Q) ⟨tm.toArray, d⟩ w)
  (he : ∀ tm w, xGq mask (upd 0 l) tm → Rep B0 w0 (L 0) w → ∀ K : Act → World → Prop, c.wp P (Exit.then K Q) ⟨tm.toArray, d⟩ w) : (Code.loop c).wp P Q ⟨l.toArray, d⟩ w := by
 have key : ∀ j, j ≤ n → ∀ tm w, xGq mask (upd j l) tm → Rep B0 w0 (L j) w → Code.rounds P c Q (j + 1) ⟨tm.toArray, d⟩ w := by
  intro j
  induction j with
  | zero => intro _ tm w h1 h2; exact he tm w h1 h2 _
  | succ j ih =>
   intro hj tm w h1 h2
   exact hs j tm w hj h1 h2 _ ⟨fun tm' w' h1' h2' => ih (by omega) tm' w' h1' h2'⟩
 exact wp_loop_rounds (n + 1) (key n (Nat.le_refl n) l w h0 hR)
end
end Go.Proofs.YtaaahfjpnggkbaaGreatDoor
