/-
  My own kit for walks over boxed values: a world is known by the list of the call's own blocks ('Rep'); loads, stores, new blocks and calls are steps on that list. No condition; nothing of the program is named here.
-/
import Derived.WalkKit
import Derived.WalkSpells
import Derived.WalkLawsBesides
import Derived.Outline
import Derived.Deep.Quiet
import Derived.Deep.MidRow
import Derived.Handy
namespace Go.Proofs.Ytdmdkdodfngjiaa
open Go.RowKit
universe u

/-- A function (or number) that nobody unfolds: neither Lean nor its kernel looks into it; 'opq_eq' says what it is. -/
noncomputable def opq {α : Type} (x : α) : α := (Classical.choice (⟨⟨x, rfl⟩⟩ : Nonempty { y : α // y = x })).val
theorem opq_eq {α : Type} (x : α) : opq x = x := (Classical.choice (⟨⟨x, rfl⟩⟩ : Nonempty { y : α // y = x })).property

/-- The world w is w0 with new blocks: below B0 all is as it was; the blocks of L lie from B0 on, no two are one, each holds what L says. -/
structure Rep (B0 : Nat) (w0 : World) (L : List (Nat × Obj)) (w : World) : Prop where
  below : Below B0 w0 w
  le : B0 ≤ w.heap.size
  own : ∀ p, p ∈ L → B0 ≤ p.1 ∧ w.heap[p.1]? = some p.2
  uniq : (L.map (·.1)).Nodup

/-- In L block b holds o; L' is L with o' in its place. -/
def SetAt : List (Nat × Obj) → Nat → Obj → Obj → List (Nat × Obj) → Prop
  | [], _, _, _, _ => False
  | p :: L, b, o, o', L' => (p = (b, o) ∧ L' = (b, o') :: L) ∨ ∃ L'', SetAt L b o o' L'' ∧ L' = p :: L''

theorem SetAt.head {b : Nat} {o o' : Obj} {L : List (Nat × Obj)} : SetAt ((b, o) :: L) b o o' ((b, o') :: L) := .inl ⟨rfl, rfl⟩
theorem SetAt.tail {b : Nat} {o o' : Obj} {p : Nat × Obj} {L L' : List (Nat × Obj)} (h : SetAt L b o o' L') : SetAt (p :: L) b o o' (p :: L') := .inr ⟨_, h, rfl⟩

theorem SetAt.spec {b : Nat} {o o' : Obj} : ∀ {L L' : List (Nat × Obj)}, SetAt L b o o' L' → (b, o) ∈ L ∧ L'.map (·.1) = L.map (·.1) ∧ ∀ p, p ∈ L' → p = (b, o') ∨ p ∈ L
  | [], _, h => h.elim
  | q :: L, L', h => by
    rcases h with ⟨rfl, rfl⟩ | ⟨L'', h, rfl⟩
    · exact ⟨.head _, rfl, fun p hp => by
        rcases List.mem_cons.1 hp with rfl | hp
        · exact .inl rfl
        · exact .inr (.tail _ hp)⟩
    · obtain ⟨h1, h2, h3⟩ := h.spec
      exact ⟨.tail _ h1, by simp [h2], fun p hp => by
        rcases List.mem_cons.1 hp with rfl | hp
        · exact .inr (.head _)
        · rcases h3 p hp with h | h
          · exact .inl h
          · exact .inr (.tail _ h)⟩

theorem SetAt.other {b : Nat} {o o' : Obj} : ∀ {L L' : List (Nat × Obj)}, SetAt L b o o' L' → (L.map (·.1)).Nodup → ∀ p, p ∈ L' → p = (b, o') ∨ (p ∈ L ∧ p.1 ≠ b)
  | [], _, h, _ => h.elim
  | q :: L, L', h, hn => by
    simp only [List.map_cons, List.nodup_cons] at hn
    intro p hp
    rcases h with ⟨rfl, rfl⟩ | ⟨L'', h, rfl⟩
    · rcases List.mem_cons.1 hp with rfl | hp
      · exact .inl rfl
      · exact .inr ⟨.tail _ hp, fun e => hn.1 (List.mem_map.2 ⟨p, hp, e⟩)⟩
    · rcases List.mem_cons.1 hp with rfl | hp
      · refine .inr ⟨.head _, fun e => hn.1 ?_⟩
        rw [e]
        exact List.mem_map.2 ⟨(b, o), h.spec.1, rfl⟩
      · rcases h.other hn.2 p hp with h' | ⟨h1, h2⟩
        · exact .inl h'
        · exact .inr ⟨.tail _ h1, h2⟩

namespace Rep
variable {B0 : Nat} {w0 w w' : World} {L L' : List (Nat × Obj)}

theorem init (w : World) : Rep w.heap.size w [] w := ⟨Below.refl _ _, Nat.le_refl _, fun _ h => (nomatch h), List.nodup_nil⟩
theorem drew (h : Rep B0 w0 L w) : Rep B0 w0 L w.drew := ⟨h.below.drew, h.le, h.own, h.uniq⟩
theorem lt (h : Rep B0 w0 L w) {p : Nat × Obj} (hp : p ∈ L) : p.1 < w.heap.size := (Array.getElem?_eq_some_iff.1 (h.own p hp).2).1
theorem call (h : Rep B0 w0 L w) (hb : Below w.heap.size w w') : Rep B0 w0 L w' :=
  ⟨h.below.trans (hb.mono h.le), Nat.le_trans h.le hb.size, fun p hp => ⟨(h.own p hp).1, by rw [hb.block p.1 (h.lt hp)]; exact (h.own p hp).2⟩, h.uniq⟩
theorem alloc (h : Rep B0 w0 L w) (o : Obj) : Rep B0 w0 ((w.heap.size, o) :: L) (w.alloc o) :=
by
  refine ⟨h.below.alloc h.le o, by have := h.le; simp; omega, fun p hp => ?_, ?_⟩
  · rcases List.mem_cons.1 hp with rfl | hp
    · exact ⟨h.le, by show (w.heap.push o)[w.heap.size]? = some o; simp⟩
    · exact ⟨(h.own p hp).1, by rw [Below.heap_alloc w o p.1 (h.lt hp)]; exact (h.own p hp).2⟩
  · simp only [List.map_cons, List.nodup_cons]
    refine ⟨fun hm => ?_, h.uniq⟩
    obtain ⟨p, hp, e⟩ := List.mem_map.1 hm
    have := h.lt hp
    omega
/-- One block of the call's own is written: the others stand. -/
theorem put (h : Rep B0 w0 L w) {b : Nat} {o o' : Obj} (hs : SetAt L b o o' L') (hb : w'.heap[b]? = some o') (hk : ∀ k, k ≠ b → w'.heap[k]? = w.heap[k]?)
    (h1 : w'.os = w.os) (h2 : w'.tape = w.tape) (h3 : w'.output = w.output) (h4 : w'.heap.size = w.heap.size) : Rep B0 w0 L' w' := by
  have hB := (h.own _ hs.spec.1).1
  refine ⟨h.below.trans ⟨h1, h2, h3, by omega, fun k hk' => hk k (by simp at hB; omega)⟩, by rw [h4]; exact h.le, fun p hp => ?_, by rw [hs.spec.2.1]; exact h.uniq⟩
  rcases hs.other h.uniq p hp with rfl | ⟨h5, h6⟩
  · exact ⟨hB, hb⟩
  · exact ⟨(h.own p h5).1, by rw [hk p.1 h6]; exact (h.own p h5).2⟩
/-- Fewer blocks are looked at. -/
theorem weaken (h : Rep B0 w0 L w) (hs : L'.Sublist L) : Rep B0 w0 L' w :=
  ⟨h.below, h.le, fun p hp => h.own p (hs.subset hp), h.uniq.sublist (hs.map _)⟩
end Rep

/-- A type whose variables have n cells (a struct, an array). -/
class RowT (P : Program) (ty : TypeId) (n : outParam Nat) : Prop where
  is : ∃ d, P.underlying ty = some d ∧ d.isRow = true ∧ (P.info? ty).map (·.size) = some n
/-- A type whose variables have one cell, and hold the value itself. -/
class CellT (P : Program) (ty : TypeId) : Prop where
  is : ∃ d, P.underlying ty = some d ∧ d.isRow = false ∧ (P.info? ty).map (·.size) = some 1
/-- A type's zero value's cells. -/
class ZeroT (P : Program) (ty : TypeId) (l : outParam (List Value)) : Prop where
  is : ∃ z, ((P.info? ty).bind (·.zero)) = some z ∧ z.cells = l.toArray

theorem RowT.mk' {P : Program} {ty : TypeId} {n : Nat} (h1 : (match P.underlying ty with | some d => d.isRow | none => false) = true) (h2 : (P.info? ty).map (·.size) = some n) : RowT P ty n := by
  cases hu : P.underlying ty with
  | none => rw [hu] at h1; cases h1
  | some d => rw [hu] at h1; exact ⟨d, hu, h1, h2⟩
theorem CellT.mk' {P : Program} {ty : TypeId} (h1 : (match P.underlying ty with | some d => !d.isRow | none => false) = true) (h2 : (P.info? ty).map (·.size) = some 1) : CellT P ty := by
  cases hu : P.underlying ty with
  | none => rw [hu] at h1; cases h1
  | some d => rw [hu] at h1; exact ⟨d, hu, by simpa using h1, h2⟩

/-- What an operand holds, so that looking it up gives the very value ('a.eval x' may stand unreckoned). -/
def ev (a : Act) : Operand → Option Value
  | .tmp t => a.tmps.toList[t]?
  | .const v => some v
  | .global g => some (.pointer (some ⟨g, 0, none⟩))
  | .func f => some (.func (.func f) #[] #[])
theorem ev_eval {a : Act} {x : Operand} {v : Value} (h : ev a x = some v) : a.eval x = v := by
  cases x with
  | tmp t =>
    have h' : a.tmps[t]? = some v := by simpa [ev] using h
    simp [Act.eval, h']
  | const v => exact Option.some.inj h
  | global g => exact Option.some.inj h
  | func f => exact Option.some.inj h
def evL (a : Act) : List Operand → Option (List Value)
  | [] => some []
  | x :: r => match ev a x, evL a r with
    | some v, some vs => some (v :: vs)
    | _, _ => none
theorem evL_eval {a : Act} : ∀ {l : List Operand} {vs : List Value}, evL a l = some vs → l.toArray.map a.eval = vs.toArray
  | [], vs, h => by obtain rfl := Option.some.inj h; simp
  | x :: r, vs, h => by
    unfold evL at h
    split at h
    · rename_i v ws hx hr
      obtain rfl := Option.some.inj h
      have := evL_eval hr
      simp only [List.map_toArray, List.map_cons, ev_eval hx] at this ⊢
      simpa using this
    · cases h
def evO (a : Act) : Option Operand → Option (Option Value)
  | none => some none
  | some x => match ev a x with | some v => some (some v) | none => none
theorem evO_eval {a : Act} {x : Option Operand} {v : Option Value} (h : evO a x = some v) : x.map a.eval = v := by
  cases x with
  | none => exact Option.some.inj h
  | some x =>
    cases hx : ev a x with
    | none => simp [evO, hx] at h
    | some u =>
      have : some u = v := by simpa [evO, hx] using h
      rw [← this, ← ev_eval hx]
      rfl

section laws
variable {P : Program} {B0 : Nat} {w0 w : World} {L : List (Nat × Obj)}

theorem Rep.rangeAt (h : Rep B0 w0 L w) {b off n : Nat} {l vs : List Value} {t : TypeId} (hm : (b, Obj.cells l.toArray t) ∈ L) (hv : (l.drop off).take n = vs) : w.rangeAt b off vs := fun j v hj => by
  subst hv
  simp only [World.cell?, (h.own _ hm).2, Option.isSome_none, Bool.false_eq_true, if_false]
  rw [List.getElem?_take] at hj
  split at hj
  · rw [List.getElem?_drop] at hj
    simpa using hj
  · cases hj
theorem Rep.cell (h : Rep B0 w0 L w) {b off : Nat} {l : List Value} {v : Value} {t : TypeId} (hm : (b, Obj.cells l.toArray t) ∈ L) (hv : l[off]? = some v) : w.cell? ⟨b, off, none⟩ = some v := by
  simp only [World.cell?, (h.own _ hm).2, Option.isSome_none, Bool.false_eq_true, if_false]
  simpa using hv
theorem Rep.thaw (h : Rep B0 w0 L w) {b : Nat} {c : Array Value} {t : TypeId} (hm : (b, Obj.cells c t) ∈ L) (a : Addr) (ha : a.block = b) : w.frozen? a = false := by
  subst ha
  simp only [World.frozen?, (h.own _ hm).2]
  simp

theorem Rep.loadRow (h : Rep B0 w0 L w) {ty : TypeId} {n : Nat} [hT : RowT P ty n] {b off : Nat} {l vs : List Value} {t : TypeId} (hm : (b, Obj.cells l.toArray t) ∈ L) (hv : (l.drop off).take n = vs) (hn : vs.length = n) :
    (loadVar ty ⟨b, off, none⟩).run P w = .ok (.agg vs.toArray) w := by
  obtain ⟨d, hu, hd, hi⟩ := hT.is
  exact run_loadVar_mid w b off ty vs d (h.rangeAt hm hv) hu hd (by rw [hi, hn])
theorem Rep.loadAll (h : Rep B0 w0 L w) {ty : TypeId} {n : Nat} [hT : RowT P ty n] {b : Nat} {l : List Value} {t : TypeId} (hm : (b, Obj.cells l.toArray t) ∈ L) (hn : l.length = n) :
    (loadVar ty ⟨b, 0, none⟩).run P w = .ok (.agg l.toArray) w := h.loadRow hm (by simp [← hn]) hn
theorem Rep.loadCell (h : Rep B0 w0 L w) {ty : TypeId} [hT : CellT P ty] {b off : Nat} {l : List Value} {v : Value} {t : TypeId} (hm : (b, Obj.cells l.toArray t) ∈ L) (hv : l[off]? = some v) :
    (loadVar ty ⟨b, off, none⟩).run P w = .ok v w := by
  obtain ⟨d, hu, hd, hi⟩ := hT.is
  have hagg : (isAgg ty).run P w = .ok false w := by
    unfold isAgg
    rw [Sem.run_bind, run_underlying hu w]
    cases d <;> simp_all
  have hl : (load ⟨b, off, none⟩).run P w = .ok v w := by
    simp only [load, Sem.run, h.cell hm hv]
  unfold loadVar
  rw [Sem.run_bind, hagg]
  simp only [Result.andThen_ok, Bool.false_eq_true, if_false]
  exact hl

theorem heap_setCells (b : Nat) : ∀ (vs : List Value) (o : Nat) (w : World) (l : List Value) (t : TypeId), w.heap[b]? = some (.cells l.toArray t) → o + vs.length ≤ l.length →
    (w.setCells b o vs).heap[b]? = some (.cells (l.take o ++ vs ++ l.drop (o + vs.length)).toArray t) ∧ (∀ k, k ≠ b → (w.setCells b o vs).heap[k]? = w.heap[k]?) ∧ (w.setCells b o vs).os = w.os ∧ (w.setCells b o vs).tape = w.tape ∧
      (w.setCells b o vs).output = w.output ∧ (w.setCells b o vs).heap.size = w.heap.size
  | [], o, w, l, t, h, hl => by
    refine ⟨?_, fun _ _ => rfl, rfl, rfl, rfl, rfl⟩
    simp only [World.setCells, List.append_nil, List.length_nil, Nat.add_zero, List.take_append_drop]
    exact h
  | v :: vs, o, w, l, t, h, hl => by
    rw [World.setCells]
    simp only [List.length_cons] at hl
    have h1 : (w.setCell ⟨b, o, none⟩ v).heap[b]? = some (.cells (l.set o v).toArray t) := by
      simp [World.setCell, Array.getElem?_modify, h]
    obtain ⟨a1, a2, a3, a4, a5, a6⟩ := heap_setCells b vs (o + 1) (w.setCell ⟨b, o, none⟩ v) (l.set o v) t h1 (by simp; omega)
    refine ⟨?_, fun k hk => ?_, a3, a4, a5, by rw [a6]; simp⟩
    · rw [a1]
      congr 3
      simp only [List.length_cons]
      rw [List.drop_set_of_lt (by omega), show o + 1 + vs.length = o + (vs.length + 1) by omega]
      congr 1
      rw [List.take_set, List.take_succ_eq_append_getElem (by omega), List.set_append]
      simp only [List.length_take]
      rw [if_neg (by omega), show o - min o l.length = 0 by omega]
      simp
    · rw [a2 k hk]
      exact Below.heap_setCell _ _ _ _ hk

theorem Rep.storeCells (h : Rep B0 w0 L w) {L' : List (Nat × Obj)} {b off : Nat} {l l' vs : List Value} {t : TypeId} (hs : SetAt L b (.cells l.toArray t) (.cells l'.toArray t) L') (hn : off + vs.length ≤ l.length) (hl : l.take off ++ vs ++ l.drop (off + vs.length) = l') :
    Rep B0 w0 L' (w.setCells b off vs) ∧ w.there b off vs.length := by
  obtain ⟨a1, a2, a3, a4, a5, a6⟩ := heap_setCells b vs off w l t (h.own _ hs.spec.1).2 hn
  subst hl
  refine ⟨h.put hs a1 a2 a3 a4 a5 a6, fun j hj => ⟨?_, h.thaw hs.spec.1 _ rfl⟩⟩
  have : w.cell? ⟨b, off + j, none⟩ = l[off + j]? := by
    simp only [World.cell?, (h.own _ hs.spec.1).2, Option.isSome_none, Bool.false_eq_true, if_false]
    simp
  rw [this, List.getElem?_eq_getElem (by omega)]
  rfl

theorem Rep.storeRow (h : Rep B0 w0 L w) {L' : List (Nat × Obj)} {ty : TypeId} {n : Nat} [hT : RowT P ty n] {b off : Nat} {l l' vs : List Value} {t : TypeId} (h1 : vs.all (·.oneCell') = true) (hvn : vs.length = n)
    (hs : SetAt L b (.cells l.toArray t) (.cells l'.toArray t) L') (hn : off + n ≤ l.length) (hl : l.take off ++ vs ++ l.drop (off + n) = l') :
    ∃ w', (storeVar ty ⟨b, off, none⟩ (.agg vs.toArray)).run P w = .ok () w' ∧ Rep B0 w0 L' w' := by
  obtain ⟨d, hu, hd, hi⟩ := hT.is
  subst hvn
  obtain ⟨a1, a2⟩ := h.storeCells hs hn hl
  exact ⟨_, run_storeVar_mid w b off ty vs.toArray (by simpa using a2) (by simp [hi]) (by simpa using h1), by simpa using a1⟩
theorem Rep.storeCell (h : Rep B0 w0 L w) {L' : List (Nat × Obj)} {ty : TypeId} [hT : CellT P ty] {b off : Nat} {l l' : List Value} {v : Value} {t : TypeId} (h1 : v.oneCell' = true)
    (hs : SetAt L b (.cells l.toArray t) (.cells l'.toArray t) L') (hn : off < l.length) (hl : l.set off v = l') :
    ∃ w', (storeVar ty ⟨b, off, none⟩ v).run P w = .ok () w' ∧ Rep B0 w0 L' w' := by
  obtain ⟨d, hu, hd, hi⟩ := hT.is
  obtain ⟨a1, a2⟩ := h.storeCells (vs := [v]) (off := off) hs (by simp; omega) (by
    rw [← hl]
    simp only [List.length_cons, List.length_nil, List.append_assoc, List.cons_append, List.nil_append, Nat.zero_add]
    rw [List.set_eq_take_append_cons_drop, if_pos hn])
  have hc : v.cells = #[v] := by cases v <;> first | rfl | cases h1
  have := run_storeCells_cells (P := P) b off [v] 0 w (fun j hj => by simpa using (a2 j hj).1) (fun j hj => by simpa using (a2 j hj).2) (by simpa using h1)
  cases hq : P.info? ty with
  | none => simp [hq] at hi
  | some i =>
    have hs1 : i.size = 1 := by simpa [hq] using hi
    refine ⟨_, ?_, a1⟩
    simp only [Nat.add_zero] at this
    simp [storeVar, sizeOf, typeInfo, hq, hc, hs1, this]
end laws

/-! ### At the list of a plain region's operations -/
section lists
variable {P : Program} {ops : Array Oper} {rest : List Oper} {o : Oper} {a : Act} {w w0 : World} {Q : Exit → Act → World → Prop} {B0 : Nat} {L L' : List (Nat × Obj)}

theorem wpList_loadRow (hR : Rep B0 w0 L w) (hg : o.guard = none) {ty : TypeId} {x : Operand} (ho : o.op = .load ty x) {n : Nat} {b off : Nat} (hx : a.eval x = .pointer (some ⟨b, off, none⟩)) (hT : RowT P ty n) {l vs : List Value} {t : TypeId}
    (hm : (b, Obj.cells l.toArray t) ∈ L) (hv : (l.drop off).take n = vs) (hn : vs.length = n) (h : wpList P ops Q rest (a.put o.dst (.agg vs.toArray)) w) : wpList P ops Q (o :: rest) a w :=
  wpList_plain hg fun _ hK => by
    unfold Oper.wp execOp
    simp only [ho, hx, Instr.loadAt, Instr.sureAddr, Sem.run_bind, Sem.run_pure, Result.andThen_ok, hR.loadRow (P := P) (ty := ty) hm hv hn]
    exact hK _ _ h
theorem wpList_loadAll (hR : Rep B0 w0 L w) (hg : o.guard = none) {ty : TypeId} {x : Operand} (ho : o.op = .load ty x) {n : Nat} {b : Nat} (hx : a.eval x = .pointer (some ⟨b, 0, none⟩)) (hT : RowT P ty n) {l : List Value} {t : TypeId}
    (hm : (b, Obj.cells l.toArray t) ∈ L) (hn : l.length = n) (h : wpList P ops Q rest (a.put o.dst (.agg l.toArray)) w) : wpList P ops Q (o :: rest) a w :=
  wpList_loadRow hR hg ho hx hT hm (by simp [← hn]) hn h
theorem wpList_loadCell (hR : Rep B0 w0 L w) (hg : o.guard = none) {ty : TypeId} {x : Operand} (ho : o.op = .load ty x) {b off : Nat} (hx : a.eval x = .pointer (some ⟨b, off, none⟩)) (hT : CellT P ty) {l : List Value} {v : Value} {t : TypeId}
    (hm : (b, Obj.cells l.toArray t) ∈ L) (hv : l[off]? = some v) (h : wpList P ops Q rest (a.put o.dst v) w) : wpList P ops Q (o :: rest) a w :=
  wpList_plain hg fun _ hK => by
    unfold Oper.wp execOp
    simp only [ho, hx, Instr.loadAt, Instr.sureAddr, Sem.run_bind, Sem.run_pure, Result.andThen_ok, hR.loadCell (P := P) (ty := ty) hm hv]
    exact hK _ _ h
theorem wpList_storeRow (hR : Rep B0 w0 L w) (hg : o.guard = none) {ty : TypeId} {x y : Operand} (ho : o.op = .store ty x y) {n : Nat} {b off : Nat} (hx : a.eval x = .pointer (some ⟨b, off, none⟩)) (hT : RowT P ty n) {l l' vs : List Value} {t : TypeId}
    (hy : a.eval y = .agg vs.toArray) (h1 : vs.all (·.oneCell') = true) (hvn : vs.length = n) (hs : SetAt L b (.cells l.toArray t) (.cells l'.toArray t) L') (hn : off + n ≤ l.length) (hl : l.take off ++ vs ++ l.drop (off + n) = l')
    (h : ∀ w', Rep B0 w0 L' w' → wpList P ops Q rest (a.put o.dst undef) w') : wpList P ops Q (o :: rest) a w :=
  wpList_plain hg fun _ hK => by
    obtain ⟨w', e, hR'⟩ := hR.storeRow (P := P) (ty := ty) h1 hvn hs hn hl
    unfold Oper.wp execOp
    simp only [ho, hx, hy, Instr.storeAt, Instr.sureAddr, Sem.run_bind, Sem.run_pure, Result.andThen_ok, e]
    exact hK _ _ (h w' hR')
theorem wpList_storeAll (hR : Rep B0 w0 L w) (hg : o.guard = none) {ty : TypeId} {x y : Operand} (ho : o.op = .store ty x y) {n : Nat} {b : Nat} (hx : a.eval x = .pointer (some ⟨b, 0, none⟩)) (hT : RowT P ty n) {l vs : List Value} {t : TypeId}
    (hy : a.eval y = .agg vs.toArray) (hs : SetAt L b (.cells l.toArray t) (.cells vs.toArray t) L') (h1 : vs.all (·.oneCell') = true) (hvn : vs.length = n) (hn : l.length = n)
    (h : ∀ w', Rep B0 w0 L' w' → wpList P ops Q rest (a.put o.dst undef) w') : wpList P ops Q (o :: rest) a w :=
  wpList_storeRow hR hg ho hx hT hy h1 hvn hs (by omega) (by simp [← hn]) h
theorem wpList_storeCell (hR : Rep B0 w0 L w) (hg : o.guard = none) {ty : TypeId} {x y : Operand} (ho : o.op = .store ty x y) {b off : Nat} (hx : a.eval x = .pointer (some ⟨b, off, none⟩)) (hT : CellT P ty) {l l' : List Value} {v : Value} {t : TypeId}
    (hy' : ev a y = some v) (h1 : v.oneCell' = true) (hs : SetAt L b (.cells l.toArray t) (.cells l'.toArray t) L') (hn : off < l.length) (hl : l.set off v = l')
    (h : ∀ w', Rep B0 w0 L' w' → wpList P ops Q rest (a.put o.dst undef) w') : wpList P ops Q (o :: rest) a w :=
  wpList_plain hg fun _ hK => by
    have hy := ev_eval hy'
    obtain ⟨w', e, hR'⟩ := hR.storeCell (P := P) (ty := ty) h1 hs hn hl
    unfold Oper.wp execOp
    simp only [ho, hx, hy, Instr.storeAt, Instr.sureAddr, Sem.run_bind, Sem.run_pure, Result.andThen_ok, e]
    exact hK _ _ (h w' hR')
theorem wpList_allocRep (hR : Rep B0 w0 L w) (hg : o.guard = none) {ty : TypeId} (ho : o.op = .alloc ty) {l : List Value} (hz : ZeroT P ty l)
    (h : ∀ b w', Rep B0 w0 ((b, .cells l.toArray ty) :: L) w' → wpList P ops Q rest (a.put o.dst (.pointer (some ⟨b, 0, none⟩))) w') : wpList P ops Q (o :: rest) a w :=
  wpList_plain hg fun _ hK => by
    obtain ⟨z, h1, h2⟩ := hz.is
    have hzv : (zeroValue ty).run P w = .ok z w := by
      cases hq : P.info? ty with
      | none => simp [hq] at h1
      | some i =>
        have : i.zero = some z := by simpa [hq] using h1
        simp [zeroValue, typeInfo, hq, this]
    have e : (Instr.alloc ty true (.tuple #[])).run P w = .ok (.pointer (some ⟨w.heap.size, 0, none⟩)) (w.alloc (.cells l.toArray ty)) := by
      simp only [Instr.alloc, Sem.run_bind, hzv, Result.andThen_ok, newVar, newRow, h2, newObj]
      rfl
    unfold Oper.wp execOp
    simp only [ho, Sem.run_bind, e, Result.andThen_ok, Sem.run_pure]
    exact hK _ _ (h _ _ (hR.alloc _))
theorem wpList_boxRep (hR : Rep B0 w0 L w) (hg : o.guard = none) {ty : TypeId} {x : Operand} (ho : o.op = .box ty x) {l : List Value} (hx : (a.eval x).cells = l.toArray)
    (h : ∀ b w', Rep B0 w0 ((b, .cells l.toArray ty) :: L) w' → wpList P ops Q rest (a.put o.dst (.pointer (some ⟨b, 0, none⟩))) w') : wpList P ops Q (o :: rest) a w :=
  wpList_plain hg fun _ hK => by
    have e : (Instr.box ty (a.eval x)).run P w = .ok (.pointer (some ⟨w.heap.size, 0, none⟩)) (w.alloc (.cells l.toArray ty)) := by
      simp only [Instr.box, newVar, newRow, hx, newObj]
      rfl
    unfold Oper.wp execOp
    simp only [ho, Sem.run_bind, e, Result.andThen_ok, Sem.run_pure]
    exact hK _ _ (h _ _ (hR.alloc _))
end lists
/-! ### Short names for the walks -/
theorem kA {α : Type u} {x y : α} {l : List α} : (x :: l).set 0 y = y :: l := rfl
theorem kB {α : Type u} {x y : α} {l : List α} {n : Nat} : (x :: l).set (n + 1) y = x :: l.set n y := rfl
theorem kC {α : Type u} {x : α} {l : List α} {n : Nat} : (x :: l).drop (n + 1) = l.drop n := rfl
theorem kD {α : Type u} {l : List α} : l.drop 0 = l := rfl
theorem kE {α : Type u} {x : α} {l : List α} {n : Nat} : (x :: l).take (n + 1) = x :: l.take n := rfl
theorem kF {α : Type u} {l : List α} : l.take 0 = [] := rfl
theorem kP {l : List Value} {d : List Deferred} {t : Tmp} {v : Value} : Act.put ⟨l.toArray, d⟩ (some t) v = ⟨(l.set t v).toArray, d⟩ := by simp [Act.put]
theorem kQ {a : Act} {v : Value} : Act.put a none v = a := rfl
end Go.Proofs.Ytdmdkdodfngjiaa
