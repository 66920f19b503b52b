/-
  My own kit for walks over boxed values: a world is known by the list of the call's own blocks ('Rep'); loads, stores, new blocks and calls are steps on that list. No condition; nothing of the program is named here.
-/
import Derived.WalkKit
import Derived.WalkSpells
import Derived.WalkLawsBesides
import Derived.Outline
import Derived.Deep.Quiet
import Derived.Deep.MidRow
import Derived.Handy
set_option linter.unusedVariables false
set_option linter.unusedSimpArgs false
namespace Go.Proofs.YtgfoeongjhkdmaaGreat
theorem mT {α : Type _} {a : α} (b : α) {l : List α} (h : List.Mem a l) : List.Mem a (b :: l) := .tail b h
theorem mC {α : Type _} (y : α) {a : α} {l : List α} (h : a ∈ l) : a ∈ y :: l := List.mem_cons_of_mem y h
theorem oD {p : Prop} [Decidable p] (h : decide p = true) : p := of_decide_eq_true h
open Go.RowKit
universe u
noncomputable def opq {α : Type} (x : α) : α := (Classical.choice (⟨⟨x, rfl⟩⟩ : Nonempty { y : α // y = x })).val
theorem xCe {α : Type} (x : α) : opq x = x := (Classical.choice (⟨⟨x, rfl⟩⟩ : Nonempty { y : α // y = x })).property
structure Rep (B0 : Nat) (w0 : World) (L : List (Nat × Obj)) (w : World) : Prop where
  below : Below B0 w0 w
  le : B0 ≤ w.heap.size
  own : ∀ p, p ∈ L → B0 ≤ p.1 ∧ w.heap[p.1]? = some p.2
  uniq : (L.map (·.1)).Nodup
def xAx : List (Nat × Obj) → Nat → Obj → Obj → List (Nat × Obj) → Prop
  | [], _, _, _, _ => False
  | p :: L, b, o, o', L' => (p = (b, o) ∧ L' = (b, o') :: L) ∨ ∃ L'', xAx L b o o' L'' ∧ L' = p :: L''
theorem xAx.head {b : Nat} {o o' : Obj} {L : List (Nat × Obj)} : xAx ((b, o) :: L) b o o' ((b, o') :: L) := .inl ⟨rfl, rfl⟩
theorem xAx.tail {b : Nat} {o o' : Obj} {p : Nat × Obj} {L L' : List (Nat × Obj)} (h : xAx L b o o' L') : xAx (p :: L) b o o' (p :: L') := .inr ⟨_, h, rfl⟩
theorem xAx.spec {b : Nat} {o o' : Obj} : ∀ {L L' : List (Nat × Obj)}, xAx L b o o' L' → (b, o) ∈ L ∧ L'.map (·.1) = L.map (·.1) ∧ ∀ p, p ∈ L' → p = (b, o') ∨ p ∈ L
  | [], _, h => h.elim
  | q :: L, L', h => by
    rcases h with ⟨rfl, rfl⟩ | ⟨L'', h, rfl⟩
    · exact ⟨.head _, rfl, fun p hp => by
        rcases List.mem_cons.1 hp with rfl | hp
        · exact .inl rfl
        · exact .inr (.tail _ hp)⟩
    · obtain ⟨h1, h2, h3⟩ := h.spec
      exact ⟨.tail _ h1, by simp [h2], fun p hp => by
        rcases List.mem_cons.1 hp with rfl | hp
        · exact .inr (.head _)
        · rcases h3 p hp with h | h
          · exact .inl h
          · exact .inr (.tail _ h)⟩
theorem xAx.other {b : Nat} {o o' : Obj} : ∀ {L L' : List (Nat × Obj)}, xAx L b o o' L' → (L.map (·.1)).Nodup → ∀ p, p ∈ L' → p = (b, o') ∨ (p ∈ L ∧ p.1 ≠ b)
  | [], _, h, _ => h.elim
  | q :: L, L', h, hn => by
    simp only [List.map_cons, List.nodup_cons] at hn
    intro p hp
    rcases h with ⟨rfl, rfl⟩ | ⟨L'', h, rfl⟩
    · rcases List.mem_cons.1 hp with rfl | hp
      · exact .inl rfl
      · exact .inr ⟨.tail _ hp, fun e => hn.1 (List.mem_map.2 ⟨p, hp, e⟩)⟩
    · rcases List.mem_cons.1 hp with rfl | hp
      · refine .inr ⟨.head _, fun e => hn.1 ?_⟩
        rw [e]
        exact List.mem_map.2 ⟨(b, o), h.spec.1, rfl⟩
      · rcases h.other hn.2 p hp with h' | ⟨h1, h2⟩
        · exact .inl h'
        · exact .inr ⟨.tail _ h1, h2⟩
namespace Rep
variable {B0 : Nat} {w0 w w' : World} {L L' : List (Nat × Obj)}
theorem init (w : World) : Rep w.heap.size w [] w := ⟨Below.refl _ _, Nat.le_refl _, fun _ h => (nomatch h), List.nodup_nil⟩
theorem drew (h : Rep B0 w0 L w) : Rep B0 w0 L w.drew := ⟨h.below.drew, h.le, h.own, h.uniq⟩
theorem lt (h : Rep B0 w0 L w) {p : Nat × Obj} (hp : p ∈ L) : p.1 < w.heap.size := (Array.getElem?_eq_some_iff.1 (h.own p hp).2).1
theorem call (h : Rep B0 w0 L w) (hb : Below w.heap.size w w') : Rep B0 w0 L w' :=
  ⟨h.below.trans (hb.mono h.le), Nat.le_trans h.le hb.size, fun p hp => ⟨(h.own p hp).1, by rw [hb.block p.1 (h.lt hp)]; exact (h.own p hp).2⟩, h.uniq⟩
theorem alloc (h : Rep B0 w0 L w) (o : Obj) : Rep B0 w0 ((w.heap.size, o) :: L) (w.alloc o) :=
by
  refine ⟨h.below.alloc h.le o, by have := h.le; simp; omega, fun p hp => ?_, ?_⟩
  · rcases List.mem_cons.1 hp with rfl | hp
    · exact ⟨h.le, by show (w.heap.push o)[w.heap.size]? = some o; simp⟩
    · exact ⟨(h.own p hp).1, by rw [Below.heap_alloc w o p.1 (h.lt hp)]; exact (h.own p hp).2⟩
  · simp only [List.map_cons, List.nodup_cons]
    refine ⟨fun hm => ?_, h.uniq⟩
    obtain ⟨p, hp, e⟩ := List.mem_map.1 hm
    have := h.lt hp
    omega
theorem put (h : Rep B0 w0 L w) {b : Nat} {o o' : Obj} (hs : xAx L b o o' L') (hb : w'.heap[b]? = some o') (hk : ∀ k, k ≠ b → w'.heap[k]? = w.heap[k]?)
    (h1 : w'.os = w.os) (h2 : w'.tape = w.tape) (h3 : w'.output = w.output) (h4 : w'.heap.size = w.heap.size) : Rep B0 w0 L' w' := by
  have hB := (h.own _ hs.spec.1).1
  refine ⟨h.below.trans ⟨h1, h2, h3, by omega, fun k hk' => hk k (by simp at hB; omega)⟩, by rw [h4]; exact h.le, fun p hp => ?_, by rw [hs.spec.2.1]; exact h.uniq⟩
  rcases hs.other h.uniq p hp with rfl | ⟨h5, h6⟩
  · exact ⟨hB, hb⟩
  · exact ⟨(h.own p h5).1, by rw [hk p.1 h6]; exact (h.own p h5).2⟩
theorem weaken (h : Rep B0 w0 L w) (hs : L'.Sublist L) : Rep B0 w0 L' w :=
  ⟨h.below, h.le, fun p hp => h.own p (hs.subset hp), h.uniq.sublist (hs.map _)⟩
end Rep
class RowT (P : Program) (ty : TypeId) (n : outParam Nat) : Prop where
  is : ∃ d, P.underlying ty = some d ∧ d.isRow = true ∧ (P.info? ty).map (·.size) = some n
class CellT (P : Program) (ty : TypeId) : Prop where
  is : ∃ d, P.underlying ty = some d ∧ d.isRow = false ∧ (P.info? ty).map (·.size) = some 1
class ZeroT (P : Program) (ty : TypeId) (l : outParam (List Value)) : Prop where
  is : ∃ z, ((P.info? ty).bind (·.zero)) = some z ∧ z.cells = l.toArray
theorem RowT.mk' {P : Program} {ty : TypeId} {n : Nat} (h1 : (match P.underlying ty with | some d => d.isRow | none => false) = true) (h2 : (P.info? ty).map (·.size) = some n) : RowT P ty n := by
  cases hu : P.underlying ty with
  | none => rw [hu] at h1; cases h1
  | some d => rw [hu] at h1; exact ⟨d, hu, h1, h2⟩
theorem CellT.mk' {P : Program} {ty : TypeId} (h1 : (match P.underlying ty with | some d => !d.isRow | none => false) = true) (h2 : (P.info? ty).map (·.size) = some 1) : CellT P ty := by
  cases hu : P.underlying ty with
  | none => rw [hu] at h1; cases h1
  | some d => rw [hu] at h1; exact ⟨d, hu, by simpa using h1, h2⟩
def ev (a : Act) : Operand → Option Value
  | .tmp t => a.tmps.toList[t]?
  | .const v => some v
  | .global g => some (.pointer (some ⟨g, 0, none⟩))
  | .func f => some (.func (.func f) #[] #[])
theorem xBt {a : Act} {x : Operand} {v : Value} (h : ev a x = some v) : a.eval x = v := by
  cases x with
  | tmp t =>
    have h' : a.tmps[t]? = some v := by simpa [ev] using h
    simp [Act.eval, h']
  | const v => exact Option.some.inj h
  | global g => exact Option.some.inj h
  | func f => exact Option.some.inj h
def evL (a : Act) : List Operand → Option (List Value)
  | [] => some []
  | x :: r => match ev a x, evL a r with
    | some v, some vs => some (v :: vs)
    | _, _ => none
theorem xDb {a : Act} : ∀ {l : List Operand} {vs : List Value}, evL a l = some vs → l.toArray.map a.eval = vs.toArray
  | [], vs, h => by obtain rfl := Option.some.inj h; simp
  | x :: r, vs, h => by
    unfold evL at h
    split at h
    · rename_i v ws hx hr
      obtain rfl := Option.some.inj h
      have := xDb hr
      simp only [List.map_toArray, List.map_cons, xBt hx] at this ⊢
      simpa using this
    · cases h
def evO (a : Act) : Option Operand → Option (Option Value)
  | none => some none
  | some x => match ev a x with | some v => some (some v) | none => none
theorem evO_eval {a : Act} {x : Option Operand} {v : Option Value} (h : evO a x = some v) : x.map a.eval = v := by
  cases x with
  | none => exact Option.some.inj h
  | some x =>
    cases hx : ev a x with
    | none => simp [evO, hx] at h
    | some u =>
      have : some u = v := by simpa [evO, hx] using h
      rw [← this, ← xBt hx]
      rfl
section laws
variable {P : Program} {B0 : Nat} {w0 w : World} {L : List (Nat × Obj)}
theorem Rep.rangeAt (h : Rep B0 w0 L w) {b off n : Nat} {l vs : List Value} {t : TypeId} (hm : (b, Obj.cells l.toArray t) ∈ L) (hv : (l.drop off).take n = vs) : w.rangeAt b off vs := fun j v hj => by
  subst hv
  simp only [World.cell?, (h.own _ hm).2, Option.isSome_none, Bool.false_eq_true, if_false]
  rw [List.getElem?_take] at hj
  split at hj
  · rw [List.getElem?_drop] at hj
    simpa using hj
  · cases hj
theorem Rep.cell (h : Rep B0 w0 L w) {b off : Nat} {l : List Value} {v : Value} {t : TypeId} (hm : (b, Obj.cells l.toArray t) ∈ L) (hv : l[off]? = some v) : w.cell? ⟨b, off, none⟩ = some v := by
  simp only [World.cell?, (h.own _ hm).2, Option.isSome_none, Bool.false_eq_true, if_false]
  simpa using hv
theorem Rep.thaw (h : Rep B0 w0 L w) {b : Nat} {c : Array Value} {t : TypeId} (hm : (b, Obj.cells c t) ∈ L) (a : Addr) (ha : a.block = b) : w.frozen? a = false := by
  subst ha
  simp only [World.frozen?, (h.own _ hm).2]
  simp
theorem Rep.loadRow (h : Rep B0 w0 L w) {ty : TypeId} {n : Nat} [hT : RowT P ty n] {b off : Nat} {l vs : List Value} {t : TypeId} (hm : (b, Obj.cells l.toArray t) ∈ L) (hv : (l.drop off).take n = vs) (hn : vs.length = n) :
    (loadVar ty ⟨b, off, none⟩).run P w = .ok (.agg vs.toArray) w := by
  obtain ⟨d, hu, hd, hi⟩ := hT.is
  exact run_loadVar_mid w b off ty vs d (h.rangeAt hm hv) hu hd (by rw [hi, hn])
theorem Rep.loadAll (h : Rep B0 w0 L w) {ty : TypeId} {n : Nat} [hT : RowT P ty n] {b : Nat} {l : List Value} {t : TypeId} (hm : (b, Obj.cells l.toArray t) ∈ L) (hn : l.length = n) :
    (loadVar ty ⟨b, 0, none⟩).run P w = .ok (.agg l.toArray) w := h.loadRow hm (by simp [← hn]) hn
theorem Rep.loadCell (h : Rep B0 w0 L w) {ty : TypeId} [hT : CellT P ty] {b off : Nat} {l : List Value} {v : Value} {t : TypeId} (hm : (b, Obj.cells l.toArray t) ∈ L) (hv : l[off]? = some v) :
    (loadVar ty ⟨b, off, none⟩).run P w = .ok v w := by
  obtain ⟨d, hu, hd, hi⟩ := hT.is
  have hagg : (isAgg ty).run P w = .ok false w := by
    unfold isAgg
    rw [Sem.run_bind, run_underlying hu w]
    cases d <;> simp_all
  have hl : (load ⟨b, off, none⟩).run P w = .ok v w := by
    simp only [load, Sem.run, h.cell hm hv]
  unfold loadVar
  rw [Sem.run_bind, hagg]
  simp only [Result.andThen_ok, Bool.false_eq_true, if_false]
  exact hl
theorem heap_setCells (b : Nat) : ∀ (vs : List Value) (o : Nat) (w : World) (l : List Value) (t : TypeId), w.heap[b]? = some (.cells l.toArray t) → o + vs.length ≤ l.length →
    (w.setCells b o vs).heap[b]? = some (.cells (l.take o ++ vs ++ l.drop (o + vs.length)).toArray t) ∧ (∀ k, k ≠ b → (w.setCells b o vs).heap[k]? = w.heap[k]?) ∧ (w.setCells b o vs).os = w.os ∧ (w.setCells b o vs).tape = w.tape ∧
      (w.setCells b o vs).output = w.output ∧ (w.setCells b o vs).heap.size = w.heap.size
  | [], o, w, l, t, h, hl => by
    refine ⟨?_, fun _ _ => rfl, rfl, rfl, rfl, rfl⟩
    simp only [World.setCells, List.append_nil, List.length_nil, Nat.add_zero, List.take_append_drop]
    exact h
  | v :: vs, o, w, l, t, h, hl => by
    rw [World.setCells]
    simp only [List.length_cons] at hl
    have h1 : (w.setCell ⟨b, o, none⟩ v).heap[b]? = some (.cells (l.set o v).toArray t) := by
      simp [World.setCell, Array.getElem?_modify, h]
    obtain ⟨a1, a2, a3, a4, a5, a6⟩ := heap_setCells b vs (o + 1) (w.setCell ⟨b, o, none⟩ v) (l.set o v) t h1 (by simp; omega)
    refine ⟨?_, fun k hk => ?_, a3, a4, a5, by rw [a6]; simp⟩
    · rw [a1]
      congr 3
      simp only [List.length_cons]
      rw [List.drop_set_of_lt (by omega), show o + 1 + vs.length = o + (vs.length + 1) by omega]
      congr 1
      rw [List.take_set, List.take_succ_eq_append_getElem (by omega), List.set_append]
      simp only [List.length_take]
      rw [if_neg (by omega), show o - min o l.length = 0 by omega]
      simp
    · rw [a2 k hk]
      exact Below.heap_setCell _ _ _ _ hk
theorem Rep.storeCells (h : Rep B0 w0 L w) {L' : List (Nat × Obj)} {b off : Nat} {l l' vs : List Value} {t : TypeId} (hs : xAx L b (.cells l.toArray t) (.cells l'.toArray t) L') (hn : off + vs.length ≤ l.length) (hl : l.take off ++ vs ++ l.drop (off + vs.length) = l') :
    Rep B0 w0 L' (w.setCells b off vs) ∧ w.there b off vs.length := by
  obtain ⟨a1, a2, a3, a4, a5, a6⟩ := heap_setCells b vs off w l t (h.own _ hs.spec.1).2 hn
  subst hl
  refine ⟨h.put hs a1 a2 a3 a4 a5 a6, fun j hj => ⟨?_, h.thaw hs.spec.1 _ rfl⟩⟩
  have : w.cell? ⟨b, off + j, none⟩ = l[off + j]? := by
    simp only [World.cell?, (h.own _ hs.spec.1).2, Option.isSome_none, Bool.false_eq_true, if_false]
    simp
  rw [this, List.getElem?_eq_getElem (by omega)]
  rfl
theorem Rep.storeRow (h : Rep B0 w0 L w) {L' : List (Nat × Obj)} {ty : TypeId} {n : Nat} [hT : RowT P ty n] {b off : Nat} {l l' vs : List Value} {t : TypeId} (h1 : vs.all (·.oneCell') = true) (hvn : vs.length = n)
    (hs : xAx L b (.cells l.toArray t) (.cells l'.toArray t) L') (hn : off + n ≤ l.length) (hl : l.take off ++ vs ++ l.drop (off + n) = l') :
    ∃ w', (storeVar ty ⟨b, off, none⟩ (.agg vs.toArray)).run P w = .ok () w' ∧ Rep B0 w0 L' w' := by
  obtain ⟨d, hu, hd, hi⟩ := hT.is
  subst hvn
  obtain ⟨a1, a2⟩ := h.storeCells hs hn hl
  exact ⟨_, run_storeVar_mid w b off ty vs.toArray (by simpa using a2) (by simp [hi]) (by simpa using h1), by simpa using a1⟩
theorem Rep.storeCell (h : Rep B0 w0 L w) {L' : List (Nat × Obj)} {ty : TypeId} [hT : CellT P ty] {b off : Nat} {l l' : List Value} {v : Value} {t : TypeId} (h1 : v.oneCell' = true)
    (hs : xAx L b (.cells l.toArray t) (.cells l'.toArray t) L') (hn : off < l.length) (hl : l.set off v = l') :
    ∃ w', (storeVar ty ⟨b, off, none⟩ v).run P w = .ok () w' ∧ Rep B0 w0 L' w' := by
  obtain ⟨d, hu, hd, hi⟩ := hT.is
  obtain ⟨a1, a2⟩ := h.storeCells (vs := [v]) (off := off) hs (by simp; omega) (by
    rw [← hl]
    simp only [List.length_cons, List.length_nil, List.append_assoc, List.cons_append, List.nil_append, Nat.zero_add]
    rw [List.set_eq_take_append_cons_drop, if_pos hn])
  have hc : v.cells = #[v] := by cases v <;> first | rfl | cases h1
  have := run_storeCells_cells (P := P) b off [v] 0 w (fun j hj => by simpa using (a2 j hj).1) (fun j hj => by simpa using (a2 j hj).2) (by simpa using h1)
  cases hq : P.info? ty with
  | none => simp [hq] at hi
  | some i =>
    have hs1 : i.size = 1 := by simpa [hq] using hi
    refine ⟨_, ?_, a1⟩
    simp only [Nat.add_zero] at this
    simp [storeVar, sizeOf, typeInfo, hq, hc, hs1, this]
end laws
section lists
variable {P : Program} {ops : Array Oper} {rest : List Oper} {o : Oper} {a : Act} {w w0 : World} {Q : Exit → Act → World → Prop} {B0 : Nat} {L L' : List (Nat × Obj)}
theorem wpList_loadRow (hR : Rep B0 w0 L w) (hg : o.guard = none) {ty : TypeId} {x : Operand} (ho : o.op = .load ty x) {n : Nat} {b off : Nat} (hx : a.eval x = .pointer (some ⟨b, off, none⟩)) (hT : RowT P ty n) {l vs : List Value} {t : TypeId}
    (hm : (b, Obj.cells l.toArray t) ∈ L) (hv : (l.drop off).take n = vs) (hn : vs.length = n) (h : wpList P ops Q rest (a.put o.dst (.agg vs.toArray)) w) : wpList P ops Q (o :: rest) a w :=
  wpList_plain hg fun _ hK => by
    unfold Oper.wp execOp
    simp only [ho, hx, Instr.loadAt, Instr.sureAddr, Sem.run_bind, Sem.run_pure, Result.andThen_ok, hR.loadRow (P := P) (ty := ty) hm hv hn]
    exact hK _ _ h
theorem wpList_loadAll (hR : Rep B0 w0 L w) (hg : o.guard = none) {ty : TypeId} {x : Operand} (ho : o.op = .load ty x) {n : Nat} {b : Nat} (hx : a.eval x = .pointer (some ⟨b, 0, none⟩)) (hT : RowT P ty n) {l : List Value} {t : TypeId}
    (hm : (b, Obj.cells l.toArray t) ∈ L) (hn : l.length = n) (h : wpList P ops Q rest (a.put o.dst (.agg l.toArray)) w) : wpList P ops Q (o :: rest) a w :=
  wpList_loadRow hR hg ho hx hT hm (by simp [← hn]) hn h
theorem wpList_loadCell (hR : Rep B0 w0 L w) (hg : o.guard = none) {ty : TypeId} {x : Operand} (ho : o.op = .load ty x) {b off : Nat} (hx : a.eval x = .pointer (some ⟨b, off, none⟩)) (hT : CellT P ty) {l : List Value} {v : Value} {t : TypeId}
    (hm : (b, Obj.cells l.toArray t) ∈ L) (hv : l[off]? = some v) (h : wpList P ops Q rest (a.put o.dst v) w) : wpList P ops Q (o :: rest) a w :=
  wpList_plain hg fun _ hK => by
    unfold Oper.wp execOp
    simp only [ho, hx, Instr.loadAt, Instr.sureAddr, Sem.run_bind, Sem.run_pure, Result.andThen_ok, hR.loadCell (P := P) (ty := ty) hm hv]
    exact hK _ _ h
theorem wpList_storeRow (hR : Rep B0 w0 L w) (hg : o.guard = none) {ty : TypeId} {x y : Operand} (ho : o.op = .store ty x y) {n : Nat} {b off : Nat} (hx : a.eval x = .pointer (some ⟨b, off, none⟩)) (hT : RowT P ty n) {l l' vs : List Value} {t : TypeId}
    (hy : a.eval y = .agg vs.toArray) (h1 : vs.all (·.oneCell') = true) (hvn : vs.length = n) (hs : xAx L b (.cells l.toArray t) (.cells l'.toArray t) L') (hn : off + n ≤ l.length) (hl : l.take off ++ vs ++ l.drop (off + n) = l')
    (h : ∀ w', Rep B0 w0 L' w' → wpList P ops Q rest (a.put o.dst undef) w') : wpList P ops Q (o :: rest) a w :=
  wpList_plain hg fun _ hK => by
    obtain ⟨w', e, hR'⟩ := hR.storeRow (P := P) (ty := ty) h1 hvn hs hn hl
    unfold Oper.wp execOp
    simp only [ho, hx, hy, Instr.storeAt, Instr.sureAddr, Sem.run_bind, Sem.run_pure, Result.andThen_ok, e]
    exact hK _ _ (h w' hR')
theorem wpList_storeAll (hR : Rep B0 w0 L w) (hg : o.guard = none) {ty : TypeId} {x y : Operand} (ho : o.op = .store ty x y) {n : Nat} {b : Nat} (hx : a.eval x = .pointer (some ⟨b, 0, none⟩)) (hT : RowT P ty n) {l vs : List Value} {t : TypeId}
    (hy : a.eval y = .agg vs.toArray) (hs : xAx L b (.cells l.toArray t) (.cells vs.toArray t) L') (h1 : vs.all (·.oneCell') = true) (hvn : vs.length = n) (hn : l.length = n)
    (h : ∀ w', Rep B0 w0 L' w' → wpList P ops Q rest (a.put o.dst undef) w') : wpList P ops Q (o :: rest) a w :=
  wpList_storeRow hR hg ho hx hT hy h1 hvn hs (by omega) (by simp [← hn]) h
theorem wpList_storeCell (hR : Rep B0 w0 L w) (hg : o.guard = none) {ty : TypeId} {x y : Operand} (ho : o.op = .store ty x y) {b off : Nat} (hx : a.eval x = .pointer (some ⟨b, off, none⟩)) (hT : CellT P ty) {l l' : List Value} {v : Value} {t : TypeId}
    (hy' : ev a y = some v) (h1 : v.oneCell' = true) (hs : xAx L b (.cells l.toArray t) (.cells l'.toArray t) L') (hn : off < l.length) (hl : l.set off v = l')
    (h : ∀ w', Rep B0 w0 L' w' → wpList P ops Q rest (a.put o.dst undef) w') : wpList P ops Q (o :: rest) a w :=
  wpList_plain hg fun _ hK => by
    have hy := xBt hy'
    obtain ⟨w', e, hR'⟩ := hR.storeCell (P := P) (ty := ty) h1 hs hn hl
    unfold Oper.wp execOp
    simp only [ho, hx, hy, Instr.storeAt, Instr.sureAddr, Sem.run_bind, Sem.run_pure, Result.andThen_ok, e]
    exact hK _ _ (h w' hR')
theorem xAa (hR : Rep B0 w0 L w) (hg : o.guard = none) {ty : TypeId} (ho : o.op = .alloc ty) {l : List Value} (hz : ZeroT P ty l)
    (h : ∀ b w', Rep B0 w0 ((b, .cells l.toArray ty) :: L) w' → wpList P ops Q rest (a.put o.dst (.pointer (some ⟨b, 0, none⟩))) w') : wpList P ops Q (o :: rest) a w :=
  wpList_plain hg fun _ hK => by
    obtain ⟨z, h1, h2⟩ := hz.is
    have hzv : (zeroValue ty).run P w = .ok z w := by
      cases hq : P.info? ty with
      | none => simp [hq] at h1
      | some i =>
        have : i.zero = some z := by simpa [hq] using h1
        simp [zeroValue, typeInfo, hq, this]
    have e : (Instr.alloc ty true (.tuple #[])).run P w = .ok (.pointer (some ⟨w.heap.size, 0, none⟩)) (w.alloc (.cells l.toArray ty)) := by
      simp only [Instr.alloc, Sem.run_bind, hzv, Result.andThen_ok, newVar, newRow, h2, newObj]
      rfl
    unfold Oper.wp execOp
    simp only [ho, Sem.run_bind, e, Result.andThen_ok, Sem.run_pure]
    exact hK _ _ (h _ _ (hR.alloc _))
theorem xAb (hR : Rep B0 w0 L w) (hg : o.guard = none) {ty : TypeId} {x : Operand} (ho : o.op = .box ty x) {l : List Value} (hx : (a.eval x).cells = l.toArray)
    (h : ∀ b w', Rep B0 w0 ((b, .cells l.toArray ty) :: L) w' → wpList P ops Q rest (a.put o.dst (.pointer (some ⟨b, 0, none⟩))) w') : wpList P ops Q (o :: rest) a w :=
  wpList_plain hg fun _ hK => by
    have e : (Instr.box ty (a.eval x)).run P w = .ok (.pointer (some ⟨w.heap.size, 0, none⟩)) (w.alloc (.cells l.toArray ty)) := by
      simp only [Instr.box, newVar, newRow, hx, newObj]
      rfl
    unfold Oper.wp execOp
    simp only [ho, Sem.run_bind, e, Result.andThen_ok, Sem.run_pure]
    exact hK _ _ (h _ _ (hR.alloc _))
end lists
theorem kA {α : Type u} {x y : α} {l : List α} : (x :: l).set 0 y = y :: l := rfl
theorem kB {α : Type u} {x y : α} {l : List α} {n : Nat} : (x :: l).set (n + 1) y = x :: l.set n y := rfl
theorem kC {α : Type u} {x : α} {l : List α} {n : Nat} : (x :: l).drop (n + 1) = l.drop n := rfl
theorem kD {α : Type u} {l : List α} : l.drop 0 = l := rfl
theorem kE {α : Type u} {x : α} {l : List α} {n : Nat} : (x :: l).take (n + 1) = x :: l.take n := rfl
theorem kF {α : Type u} {l : List α} : l.take 0 = [] := rfl
theorem kP {l : List Value} {d : List Deferred} {t : Tmp} {v : Value} : Act.put ⟨l.toArray, d⟩ (some t) v = ⟨(l.set t v).toArray, d⟩ := by simp [Act.put]
theorem kQ {a : Act} {v : Value} : Act.put a none v = a := rfl
end Go.Proofs.YtgfoeongjhkdmaaGreat
namespace Go.Proofs.YtgfoeongjhkdmaaGreat
open Go.RowKit
section
variable {P : Program} {ops : Array Oper}
def uponTo (P : Program) (C : World → Prop) (v : Value) : Result Next → Prop
  | .ok (.value u) w' => u = v ∧ C w'
  | .ok .skip w' => v = undef ∧ C w'
  | .ok (.enter f args) w' => Calls P f args w' fun e w'' => e = .returned v ∧ C w''
  | _ => False
def quietTo (P : Program) (o : Oper) (a : Act) (C C' : World → Prop) (v : Value) : Prop := ∀ w, C w → uponTo P C' v ((execOp a.eval o).run P w)
def xBy (P : Program) (ops : Array Oper) (o : Oper) (v : Value) (a : Act) (C C' : World → Prop) : Prop :=
  (Region.wanted o (yielded ops a.tmps) = true ∧ quietTo P o a C C' v) ∨ (Region.wanted o (yielded ops a.tmps) = false ∧ v = undef ∧ ∀ w, C w → C' w)
theorem xBy.wpOp {i : Nat} {o : Oper} {v : Value} {a : Act} {C C' : World → Prop} {Q : Exit → Act → World → Prop} {K : Act → World → Prop} {w : World} (hi : ops[i]? = some o) (hy : xBy P ops o v a C C') (hw : C w) (h : ∀ w', C' w' → K (a.put o.dst v) w') : wpOp P ops Q i K a w := by
  unfold Go.wpOp
  simp only [hi]
  rcases hy with ⟨h1, h2⟩ | ⟨h1, rfl, h2⟩
  · rw [if_pos h1]
    refine .inl ?_
    have h3 := h2 w hw
    unfold Oper.wp
    generalize (execOp a.eval o).run P w = r at *
    cases r with
    | ok n w' =>
      cases n <;> simp only [uponTo] at h3 <;> simp only [Oper.upon]
      case value u => obtain ⟨rfl, h3⟩ := h3; exact h _ h3
      case skip => obtain ⟨rfl, h3⟩ := h3; exact h _ h3
      case enter f args => exact h3.mono fun e w'' ⟨he, hc⟩ => by subst he; exact h _ hc
    | halt x w' => exact h3.elim
  · rw [if_neg (by rw [h1]; exact Bool.false_ne_true)]
    exact h _ (h2 w hw)
theorem xBy.of_put {o : Oper} {v u : Value} {a : Act} {d : Option Tmp} {C C' : World → Prop} (hs : ∀ cs b, o.op ≠ .select cs b) (hd : ∀ t, d = some t → t ∉ o.looksAt ops) : xBy P ops o v (a.put d u) C C' ↔ xBy P ops o v a C C' := by
  unfold xBy quietTo
  rw [wanted_put o a d u hd, execOp_put o hs a d u hd]
def cnt (tl : List Nat) (listed : Array Bool) : Nat := tl.countP fun t => listed.getD t false
theorem cnt_set {tl : List Nat} {listed : Array Bool} {i : Nat} (h : i ∉ tl) : cnt tl (listed.setIfInBounds i true) = cnt tl listed := by
  unfold cnt
  refine List.countP_congr fun t ht => ?_
  rw [getD_set_ne false (fun e => h (by rw [e]; exact ht))]
def wpAnyK (P : Program) (ops : Array Oper) (tl : List Nat) (C : Nat → World → Prop) (Q : Nat → Act → Prop) : Nat → Array Bool → Act → Prop
  | 0, listed, a => Region.ready .any ops listed = [] ∧ Q (cnt tl listed) a
  | f + 1, listed, a => (Region.ready .any ops listed = [] → Q (cnt tl listed) a) ∧ ∀ i ∈ Region.ready .any ops listed, ∃ o v, ops[i]? = some o ∧
      xBy P ops o v a (C (cnt tl listed)) (C (cnt tl (listed.setIfInBounds i true))) ∧ wpAnyK P ops tl C Q f (listed.setIfInBounds i true) (a.put o.dst v)
theorem wpAny_of_K {tl : List Nat} {C : Nat → World → Prop} {Q : Nat → Act → Prop} {Q' : Exit → Act → World → Prop} (hQ : ∀ k a w, C k w → Q k a → Q' .normal a w) :
    ∀ (f : Nat) (listed : Array Bool) (a : Act) (w : World), C (cnt tl listed) w → wpAnyK P ops tl C Q f listed a → wpAny P .any ops Q' f listed a w
  | 0, _, _, _, hw, h => ⟨h.1, hQ _ _ _ hw h.2⟩
  | f + 1, listed, a, w, hw, h => ⟨fun h0 => hQ _ _ _ hw (h.1 h0), fun i hi => by
      obtain ⟨o, v, ho, hy, hn⟩ := h.2 i hi
      exact hy.wpOp ho hw fun w' hw' => wpAny_of_K hQ f _ _ w' hw' hn⟩
def Closed (ops : Array Oper) (listed : Array Bool) : Prop := listed.size = ops.size ∧ ∀ j oj, ops[j]? = some oj → listed.getD j false = true → ∀ e ∈ oj.after, Region.binds .any e = true → listed.getD e.on false = true
theorem Closed.set {listed : Array Bool} {i : Nat} (h : Closed ops listed) (hi : i ∈ Region.ready .any ops listed) : Closed ops (listed.setIfInBounds i true) := by
  obtain ⟨_, oi, hoi, hall⟩ := mem_ready.1 hi
  refine ⟨by simp [h.1], fun j oj hj hl e he hb => ?_⟩
  by_cases hij : i = j
  · subst hij
    obtain rfl : oj = oi := Option.some.inj (hj.symm.trans hoi)
    exact getD_set_true (hall e he hb)
  · rw [getD_set_ne false hij] at hl
    exact getD_set_true (h.2 j oj hj hl e he hb)
theorem wpAnyK_first {tl : List Nat} {C : Nat → World → Prop} {Q : Nat → Act → Prop} {i : Nat} {oi : Oper} {v : Value} {al : Nat → Prop} (hi : ops[i]? = some oi) (hit : i ∉ tl) (hs : ∀ (j : Nat) (o : Oper) cs b, ops[j]? = some o → o.op ≠ .select cs b)
    (hal : ∀ ls, Closed ops ls → ls.getD i true = false → al (cnt tl ls)) : ∀ (fuel : Nat) (listed : Array Bool) (a : Act), Closed ops listed →
      (∀ j oj, ops[j]? = some oj → j ≠ i → listed.getD j true = false → (∀ e ∈ oj.after, Region.binds .any e = true → e.on ≠ i) → oi.apart ops oj = true) →
      i ∈ Region.ready .any ops listed → (∀ k, al k → xBy P ops oi v a (C k) (C k)) → wpAnyK P ops tl C Q fuel (listed.setIfInBounds i true) (a.put oi.dst v) → wpAnyK P ops tl C Q (fuel + 1) listed a := by
  intro fuel
  induction fuel with
  | zero =>
    intro listed a hc _ hr hy H
    refine ⟨fun h0 => (by rw [h0] at hr; cases hr), fun j hj => ?_⟩
    by_cases hji : j = i
    · subst hji
      exact ⟨oi, v, hi, by rw [cnt_set hit]; exact hy _ (hal _ hc (mem_ready.1 hr).1), H⟩
    · have := ready_mono hj hji
      rw [H.1] at this
      cases this
  | succ fuel ih =>
    intro listed a hc hfree hr hy H
    refine ⟨fun h0 => (by rw [h0] at hr; cases hr), fun j hj => ?_⟩
    by_cases hji : j = i
    · subst hji
      exact ⟨oi, v, hi, by rw [cnt_set hit]; exact hy _ (hal _ hc (mem_ready.1 hr).1), H⟩
    · obtain ⟨oj, u, hoj, hyj, Hj⟩ := H.2 j (ready_mono hj hji)
      obtain ⟨hjun, oj', hoj', hall⟩ := mem_ready.1 hj
      obtain rfl : oj = oj' := Option.some.inj (hoj.symm.trans hoj')
      have hnot : ∀ e ∈ oj.after, Region.binds .any e = true → e.on ≠ i := fun e he hb heq => by
        have h1 := hall e he hb
        have h0 := (mem_ready.1 hr).1
        rw [heq] at h1
        rcases Nat.lt_or_ge i listed.size with h' | h'
        · simp [h'] at h0 h1; rw [h0] at h1; cases h1
        · simp [Array.getElem?_eq_none h'] at h1
      obtain ⟨p1, p2, p3⟩ := Oper.apart_spec (hfree j oj hoj hji hjun hnot)
      refine ⟨oj, u, hoj, ?_, ?_⟩
      · rw [xBy.of_put (fun cs b => hs j oj cs b hoj) p1, cnt_set hit, Array.setIfInBounds_comm _ _ (Ne.symm hji), cnt_set hit] at hyj
        exact hyj
      · refine ih (listed.setIfInBounds j true) (a.put oj.dst u) (hc.set hj) (fun k ok hk hki hun hno => ?_) (ready_mono hr (Ne.symm hji)) (fun k hk => (xBy.of_put (fun cs b => hs i oi cs b hi) p3).2 (hy k hk)) ?_
        · refine hfree k ok hk hki ?_ hno
          by_cases hjk : j = k
          · subst hjk; exact hjun
          · rw [getD_set_ne true hjk] at hun; exact hun
        · rw [Array.setIfInBounds_comm _ _ hji, ← Act.put_comm a v u p2]
          exact Hj
def ordB (ops : Array Oper) : List Nat → Array Bool → Bool
  | [], _ => true
  | i :: r, listed => (Region.ready .any ops listed).contains i && Region.free .any ops listed i && ordB ops r (listed.setIfInBounds i true)
def setAll (l : List Nat) (listed : Array Bool) : Array Bool := l.foldl (fun x i => x.setIfInBounds i true) listed
def seqB (ops : Array Oper) : List Nat → Array Bool → Bool
  | [], listed => (Region.ready .any ops listed).isEmpty
  | t :: r, listed => decide (Region.ready .any ops listed = [t]) && seqB ops r (listed.setIfInBounds t true)
def waitsB (ops : Array Oper) (j i : Nat) : Bool := match ops[j]? with | some oj => oj.after.any fun e => Region.binds .any e && e.on == i | none => false
theorem waitsB_spec {j i : Nat} (h : waitsB ops j i = true) : ∃ oj, ops[j]? = some oj ∧ ∃ e ∈ oj.after, Region.binds .any e = true ∧ e.on = i := by
  unfold waitsB at h
  split at h
  · rename_i oj hj
    obtain ⟨e, he, hb⟩ := Array.any_eq_true'.1 h
    simp only [Bool.and_eq_true, beq_iff_eq] at hb
    exact ⟨oj, hj, e, he, hb.1, hb.2⟩
  · cases h
def sinkB (ops : Array Oper) (t : Nat) : List Nat → Bool
  | [] => true
  | i :: r => ((r ++ [t]).any fun j => waitsB ops j i) && sinkB ops t r
def chainB (ops : Array Oper) : List Nat → Bool
  | [] => true
  | [_] => true
  | t :: u :: r => waitsB ops u t && chainB ops (u :: r)
def distinctB : List Nat → Bool
  | [] => true
  | t :: r => !r.contains t && distinctB r
def ordOK (ops : Array Oper) (ord : List (Nat × Bool)) (tl : List Nat) : Bool :=
  Region.noSelect ops && ordB ops (ord.map (·.1)) (Array.replicate ops.size false) && seqB ops tl (setAll (ord.map (·.1)) (Array.replicate ops.size false)) &&
  (match tl with | [] => true | t :: _ => sinkB ops t ((ord.filter fun p => !p.2).map (·.1))) && chainB ops tl && distinctB tl && tl.all (fun t => decide (t < ops.size) && !(ord.map (·.1)).contains t)
theorem closed_tail {listed : Array Bool} (h : Closed ops listed) : ∀ (tl : List Nat), chainB ops tl = true → ∀ t ∈ tl, listed.getD t false = true → ∀ t0, tl.head? = some t0 → listed.getD t0 false = true
  | [], _, _, ht, _, _, _ => nomatch ht
  | [u], _, t, ht, hl, t0, h0 => by
    obtain rfl : t = u := by simpa using ht
    obtain rfl : t = t0 := by simpa using h0
    exact hl
  | u :: v :: r, hc, t, ht, hl, t0, h0 => by
    simp only [chainB, Bool.and_eq_true] at hc
    obtain rfl : u = t0 := by simpa using h0
    rcases List.mem_cons.1 ht with rfl | ht
    · exact hl
    · have := closed_tail h (v :: r) hc.2 t ht hl v rfl
      obtain ⟨ov, hov, e, he, hb, rfl⟩ := waitsB_spec hc.1
      exact h.2 v ov hov this e he hb
theorem closed_sink {listed : Array Bool} {t : Nat} (h : Closed ops listed) (ht : listed.getD t false = true) : ∀ (l : List Nat), sinkB ops t l = true → ∀ i ∈ l, listed.getD i false = true
  | [], _, _, hi => nomatch hi
  | k :: r, hs, i, hi => by
    simp only [sinkB, Bool.and_eq_true] at hs
    have ih := closed_sink h ht r hs.2
    rcases List.mem_cons.1 hi with rfl | hi
    · obtain ⟨j, hj, hw⟩ := List.any_eq_true.1 hs.1
      obtain ⟨oj, hoj, e, he, hb, rfl⟩ := waitsB_spec hw
      refine h.2 j oj hoj ?_ e he hb
      rcases List.mem_append.1 hj with hj | hj
      · exact ih j hj
      · obtain rfl : j = t := by simpa using hj
        exact ht
    · exact ih i hi
def headW (P : Program) (ops : Array Oper) (I : (World → Prop) → Prop) (C : World → Prop) (K : Act → Prop) : List (Nat × Bool) → Act → Prop
  | [], a => K a
  | i :: r, a => ∃ o v, ops[i.1]? = some o ∧ (i.2 = true → ∀ C' : World → Prop, I C' → xBy P ops o v a C' C') ∧ (i.2 = false → xBy P ops o v a C C) ∧ headW P ops I C K r (a.put o.dst v)
def tailW (P : Program) (ops : Array Oper) (I : (World → Prop) → Prop) (Q : Exit → Act → World → Prop) : List Nat → (World → Prop) → Act → Prop
  | [], C, a => ∀ w, C w → Q .normal a w
  | t :: r, C, a => ∃ o v, ∃ C' : World → Prop, ops[t]? = some o ∧ xBy P ops o v a C C' ∧ I C' ∧ tailW P ops I Q r C' (a.put o.dst v)
def headK (P : Program) (ops : Array Oper) (C : Nat → World → Prop) (K : Act → Prop) : List (Nat × Bool) → Act → Prop
  | [], a => K a
  | i :: r, a => ∃ o v, ops[i.1]? = some o ∧ (∀ k, (i.2 = true ∨ k = 0) → xBy P ops o v a (C k) (C k)) ∧ headK P ops C K r (a.put o.dst v)
def tailK (P : Program) (ops : Array Oper) (C : Nat → World → Prop) (Q : Nat → Act → Prop) : List Nat → Nat → Act → Prop
  | [], k, a => Q k a
  | t :: r, k, a => ∃ o v, ops[t]? = some o ∧ xBy P ops o v a (C k) (C (k + 1)) ∧ tailK P ops C Q r (k + 1) (a.put o.dst v)
theorem headK_of {I : (World → Prop) → Prop} {C0 : World → Prop} {K : Act → Prop} : ∀ (ord : List (Nat × Bool)) (a : Act), headW P ops I C0 K ord a → ∃ aH, K aH ∧ ∀ C : Nat → World → Prop, C 0 = C0 → (∀ k, I (C k)) → headK P ops C (fun a' => a' = aH) ord a
  | [], a, h => ⟨a, h, fun _ _ _ => rfl⟩
  | i :: r, a, h => by
    obtain ⟨o, v, ho, h1, h2, hr⟩ := h
    obtain ⟨aH, hK, hC⟩ := headK_of r _ hr
    refine ⟨aH, hK, fun C h0 hI => ⟨o, v, ho, fun k hk => ?_, hC C h0 hI⟩⟩
    cases hf : i.2 with
    | true => exact h1 hf _ (hI k)
    | false =>
      rcases hk with hk | rfl
      · rw [hf] at hk; cases hk
      · rw [h0]; exact h2 hf
theorem tailK_shift {C D : Nat → World → Prop} {Q Q' : Nat → Act → Prop} (hC : ∀ k, C (k + 1) = D k) (hQ : ∀ k a, Q k a → Q' (k + 1) a) : ∀ (r : List Nat) (k : Nat) (a : Act), tailK P ops D Q r k a → tailK P ops C Q' r (k + 1) a
  | [], k, a, h => hQ k a h
  | t :: r, k, a, h => by
    obtain ⟨o, v, ho, hy, hr⟩ := h
    exact ⟨o, v, ho, by rw [hC, hC]; exact hy, tailK_shift hC hQ r (k + 1) _ hr⟩
theorem tailK_of {I : (World → Prop) → Prop} {Q : Exit → Act → World → Prop} : ∀ (tl : List Nat) (C0 : World → Prop) (a : Act), I C0 → tailW P ops I Q tl C0 a → ∃ C : Nat → World → Prop, C 0 = C0 ∧ (∀ k, I (C k)) ∧ tailK P ops C (fun k a' => ∀ w, C k w → Q .normal a' w) tl 0 a
  | [], C0, a, hI, h => ⟨fun _ => C0, rfl, fun _ => hI, h⟩
  | t :: r, C0, a, hI, h => by
    obtain ⟨o, v, C', ho, hy, hI', hr⟩ := h
    obtain ⟨D, hD, hID, hk⟩ := tailK_of r C' _ hI' hr
    refine ⟨fun k => match k with | 0 => C0 | k + 1 => D k, rfl, fun k => match k with | 0 => hI | k + 1 => hID k, o, v, ho, by rw [← hD] at hy; exact hy, ?_⟩
    exact tailK_shift (fun _ => rfl) (fun k a' h' => h') r 0 _ hk
theorem wpAnyK_tail {tl : List Nat} {C : Nat → World → Prop} {Q : Nat → Act → Prop} : ∀ (r : List Nat) (k : Nat) (listed : Array Bool) (a : Act), r.Nodup → (∀ t ∈ r, t ∈ tl ∧ t < listed.size ∧ listed.getD t true = false) → tl.Nodup → cnt tl listed = k → seqB ops r listed = true → tailK P ops C Q r k a →
    wpAnyK P ops tl C Q r.length listed a
  | [], k, listed, a, _, _, _, hk, hB, h => ⟨by simpa [seqB] using hB, by rw [hk]; exact h⟩
  | t :: r, k, listed, a, hnd, hin, htl, hk, hB, h => by
    simp only [seqB, Bool.and_eq_true, decide_eq_true_eq] at hB
    obtain ⟨o, v, ho, hy, hr⟩ := h
    obtain ⟨ht1, ht2, ht3⟩ := hin t (.head _)
    have hcnt : cnt tl (listed.setIfInBounds t true) = k + 1 := by
      have : ∀ (l : List Nat), l.Nodup → t ∈ l → cnt l (listed.setIfInBounds t true) = cnt l listed + 1 := by
        intro l
        induction l with
        | nil => intro _ h; cases h
        | cons u l ih =>
          intro hnd hm
          obtain ⟨h1, h2⟩ := List.nodup_cons.1 hnd
          have hf : listed.getD t false = false := by simp [ht2] at ht3 ⊢; exact ht3
          by_cases hut : t = u
          · subst hut
            have e := cnt_set (tl := l) (listed := listed) h1
            unfold cnt at e ⊢
            rw [List.countP_cons_of_pos (by simp [ht2]), List.countP_cons_of_neg (by rw [hf]; exact Bool.false_ne_true), e]
          · have hm' : t ∈ l := by
              rcases List.mem_cons.1 hm with h | h
              · exact absurd h hut
              · exact h
            have := ih h2 hm'
            unfold cnt at this ⊢
            rw [List.countP_cons, List.countP_cons, this, getD_set_ne false hut]
            omega
      rw [this tl htl ht1, hk]
    refine ⟨fun h0 => (by rw [hB.1] at h0; cases h0), fun i hi => ?_⟩
    rw [hB.1] at hi
    obtain rfl : i = t := by simpa using hi
    refine ⟨o, v, ho, by rw [hk, hcnt]; exact hy, ?_⟩
    obtain ⟨h1, h2⟩ := List.nodup_cons.1 hnd
    refine wpAnyK_tail r (k + 1) _ _ h2 (fun s hs => ?_) htl hcnt hB.2 hr
    obtain ⟨q1, q2, q3⟩ := hin s (.tail _ hs)
    exact ⟨q1, by simpa using q2, by rw [getD_set_ne true (fun e => h1 (by rw [e]; exact hs))]; exact q3⟩
theorem distinctB_spec : ∀ (l : List Nat), distinctB l = true → l.Nodup
  | [], _ => List.nodup_nil
  | t :: r, h => by
    simp only [distinctB, Bool.and_eq_true, Bool.not_eq_true'] at h
    exact List.nodup_cons.2 ⟨by simpa using h.1, distinctB_spec r h.2⟩
theorem setAll_get (t : Nat) : ∀ (l : List Nat) (x : Array Bool), t ∉ l → (setAll l x).getD t true = x.getD t true
  | [], _, _ => rfl
  | k :: l, x, h => by
    show (setAll l (x.setIfInBounds k true)).getD t true = _
    rw [setAll_get t l _ (fun h' => h (.tail _ h')), getD_set_ne true (fun e => h (by rw [e]; exact .head _))]
theorem setAll_size : ∀ (l : List Nat) (x : Array Bool), (setAll l x).size = x.size
  | [], _ => rfl
  | k :: l, x => by
    show (setAll l (x.setIfInBounds k true)).size = _
    rw [setAll_size l]; simp
theorem wpAnyK_head {tl : List Nat} {C : Nat → World → Prop} {Q : Nat → Act → Prop} {aH : Act} {n : Nat} (hsel : Region.noSelect ops = true) (full : List (Nat × Bool)) (hal : ∀ p ∈ full, p.2 = false → ∀ ls, Closed ops ls → ls.getD p.1 true = false → cnt tl ls = 0) :
    ∀ (ord : List (Nat × Bool)) (listed : Array Bool) (a : Act), (∀ p ∈ ord, p ∈ full ∧ p.1 ∉ tl) → Closed ops listed → ordB ops (ord.map (·.1)) listed = true → headK P ops C (fun a' => a' = aH) ord a →
      (∀ a', a' = aH → wpAnyK P ops tl C Q n (setAll (ord.map (·.1)) listed) a') → wpAnyK P ops tl C Q (ord.length + n) listed a
  | [], listed, a, _, _, _, h, hn => by rw [List.length_nil, Nat.zero_add]; exact hn a h
  | p :: r, listed, a, hin, hc, hB, h, hn => by
    obtain ⟨i, b⟩ := p
    simp only [List.map_cons, ordB, Bool.and_eq_true] at hB
    obtain ⟨⟨hr, hf⟩, hB'⟩ := hB
    obtain ⟨o, v, ho, hy, hK⟩ := h
    have hr' : i ∈ Region.ready .any ops listed := by simpa using hr
    obtain ⟨hif, hit⟩ := hin (i, b) (.head _)
    rw [List.length_cons, show r.length + 1 + n = (r.length + n) + 1 by omega]
    refine wpAnyK_first (al := fun k => b = true ∨ k = 0) ho hit (Region.noSelect_spec hsel) (fun ls hcl hun => ?_) (r.length + n) listed a hc (Region.free_spec ho hf) hr' hy
      (wpAnyK_head hsel full hal r _ _ (fun j hj => hin j (.tail _ hj)) (hc.set hr') hB' hK hn)
    cases hfl : b with
    | true => exact .inl rfl
    | false => exact .inr (hal (i, b) hif hfl ls hcl hun)
theorem wpAny_ord {I : (World → Prop) → Prop} {Q : Exit → Act → World → Prop} {C0 : World → Prop} {a : Act} {w : World} (ord : List (Nat × Bool)) (tl : List Nat) (hB : ordOK ops ord tl = true) (hw : C0 w) (hI : I C0) (h : headW P ops I C0 (tailW P ops I Q tl C0) ord a) :
    wpAny P .any ops Q (ord.length + tl.length) (Array.replicate ops.size false) a w := by
  simp only [ordOK, Bool.and_eq_true] at hB
  obtain ⟨⟨⟨⟨⟨⟨h1, h2⟩, h3⟩, h4⟩, h5⟩, h6⟩, h7⟩ := hB
  have hnd := distinctB_spec tl h6
  have htl : ∀ t ∈ tl, t < ops.size ∧ t ∉ ord.map (·.1) := fun t ht => by
    have := List.all_eq_true.1 h7 t ht
    simp only [Bool.and_eq_true, decide_eq_true_eq, Bool.not_eq_true'] at this
    exact ⟨this.1, by simpa using this.2⟩
  obtain ⟨aH, hT, hH⟩ := headK_of ord a h
  obtain ⟨C, hC, hIC, hTK⟩ := tailK_of tl C0 aH hI hT
  have hcl0 : Closed ops (Array.replicate ops.size false) := ⟨by simp, fun j oj _ hl => by
    rcases Nat.lt_or_ge j ops.size with h' | h'
    · simp [h'] at hl
    · simp [h'] at hl⟩
  have cnt0 : ∀ ls : Array Bool, (∀ t ∈ tl, ls.getD t false ≠ true) → cnt tl ls = 0 := fun ls hls => List.countP_eq_zero.2 (fun t ht => by simpa using hls t ht)
  have hfull : ∀ ls, Closed ops ls → ∀ t ∈ tl, ls.getD t false = true → ∀ j ∈ ord, j.2 = false → ls.getD j.1 false = true := fun ls hcl t ht hl j hj hfj => by
    cases htl' : tl with
    | nil => rw [htl'] at ht; cases ht
    | cons t0 r =>
      have ht0 := closed_tail hcl tl h5 t ht hl t0 (by rw [htl']; rfl)
      rw [htl'] at h4
      exact closed_sink hcl ht0 _ h4 j.1 (List.mem_map.2 ⟨j, List.mem_filter.2 ⟨hj, by rw [hfj]; rfl⟩, rfl⟩)
  have e0 : cnt tl (setAll (ord.map (·.1)) (Array.replicate ops.size false)) = 0 := cnt0 _ fun t ht => by
    have hs := setAll_get t (ord.map (·.1)) (Array.replicate ops.size false) (htl t ht).2
    have hz := setAll_size (ord.map (·.1)) (Array.replicate ops.size false)
    have hlt : t < (setAll (ord.map (·.1)) (Array.replicate ops.size false)).size := by rw [hz]; simpa using (htl t ht).1
    intro he
    have hu : (setAll (ord.map (·.1)) (Array.replicate ops.size false)).getD t true = (setAll (ord.map (·.1)) (Array.replicate ops.size false)).getD t false := by simp [hlt]
    rw [← hu, hs] at he
    simp [(htl t ht).1] at he
  have H := wpAnyK_head (P := P) (tl := tl) (C := C) (Q := fun k a' => ∀ w, C k w → Q .normal a' w) (aH := aH) (n := tl.length) h1
    ord (fun i hi hfi ls hcl hun => cnt0 ls fun t ht hl => by
      have := hfull ls hcl t ht hl i hi hfi
      rcases Nat.lt_or_ge i.1 ls.size with h' | h'
      · simp [h'] at this hun; rw [hun] at this; cases this
      · simp [Array.getElem?_eq_none h'] at hun)
    ord (Array.replicate ops.size false) a (fun p hp => ⟨hp, fun ht => (htl p.1 ht).2 (List.mem_map.2 ⟨p, hp, rfl⟩)⟩) hcl0 h2 (hH C hC hIC) (fun a' ha' => by
      subst ha'
      refine wpAnyK_tail tl 0 _ _ hnd (fun t ht => ⟨ht, by rw [setAll_size]; simpa using (htl t ht).1, ?_⟩) hnd e0 h3 hTK
      rw [setAll_get t (ord.map (·.1)) _ (htl t ht).2]
      simp [(htl t ht).1])
  refine wpAny_of_K (C := C) (fun k a' w' hw' h' => h' w' hw') _ _ _ w ?_ H
  rw [cnt0 _ (fun t ht he => by simp [(htl t ht).1] at he), hC]
  exact hw
end
section
variable {P : Program} {ops : Array Oper} {C : World → Prop}
def xCf : Nat → List Nat → List (Nat × Bool)
  | _, [] => []
  | k, t :: ts => if t = 2 then xCf (k + 1) ts else (k, decide (t = 1)) :: xCf (k + 1) ts
def tlFrom : Nat → List Nat → List Nat
  | _, [] => []
  | k, t :: ts => if t = 2 then k :: tlFrom (k + 1) ts else tlFrom (k + 1) ts
def xCm (P : Program) (ops : Array Oper) (I : (World → Prop) → Prop) (C : World → Prop) (K : List Oper → Act → Prop) : List Nat → List Oper → List Oper → Act → Prop
  | t :: ts, o :: l, acc, a => if t = 2 then xCm P ops I C K ts l (acc ++ [o]) a else
      ∃ v, (t = 1 → ∀ C' : World → Prop, I C' → xBy P ops o v a C' C') ∧ (t ≠ 1 → xBy P ops o v a C C) ∧ xCm P ops I C K ts l acc (a.put o.dst v)
  | [], _, acc, a => K acc a
  | _ :: _, [], acc, a => K acc a
def tailM (P : Program) (ops : Array Oper) (I : (World → Prop) → Prop) (Q : Exit → Act → World → Prop) : List Oper → (World → Prop) → Act → Prop
  | [], C, a => ∀ w, C w → Q .normal a w
  | o :: r, C, a => ∃ v, ∃ C' : World → Prop, xBy P ops o v a C C' ∧ I C' ∧ tailM P ops I Q r C' (a.put o.dst v)
theorem tailW_of_M {I : (World → Prop) → Prop} {Q : Exit → Act → World → Prop} : ∀ (tl : List Nat) (C : World → Prop) (a : Act), (∀ t ∈ tl, t < ops.size) → tailM P ops I Q (tl.filterMap (ops[·]?)) C a → tailW P ops I Q tl C a
  | [], C, a, _, h => h
  | t :: r, C, a, hlt, h => by
    obtain ⟨o, ho⟩ : ∃ o, ops[t]? = some o := ⟨_, Array.getElem?_eq_getElem (hlt t (.head _))⟩
    rw [List.filterMap_cons_some ho] at h
    obtain ⟨v, C', hy, hI, hr⟩ := h
    exact ⟨_, v, C', ho, hy, hI, tailW_of_M r C' _ (fun s hs => hlt s (.tail _ hs)) hr⟩
theorem headW_of_M {I : (World → Prop) → Prop} {K : Act → Prop} {KM : List Oper → Act → Prop} : ∀ (ts : List Nat) (l acc : List Oper) (k : Nat) (a : Act), ts.length = l.length → (∀ j, l[j]? = ops[k + j]?) → (∀ a', KM (acc ++ (tlFrom k ts).filterMap (ops[·]?)) a' → K a') → xCm P ops I C KM ts l acc a → headW P ops I C K (xCf k ts) a
  | [], [], acc, k, a, _, _, hK, h => hK a (by unfold xCm at h; simpa [tlFrom] using h)
  | [], _ :: _, _, _, _, hl, _, _, _ => nomatch hl
  | _ :: _, [], _, _, _, hl, _, _, _ => nomatch hl
  | t :: ts, o :: l, acc, k, a, hl, hj, hK, h => by
    have h0 : ops[k]? = some o := by simpa using (hj 0).symm
    have hj' : ∀ j, l[j]? = ops[k + 1 + j]? := fun j => by have := hj (j + 1); simpa [Nat.add_assoc, Nat.add_comm 1 j] using this
    have hl' : ts.length = l.length := by simpa using hl
    unfold xCm at h
    by_cases ht : t = 2
    · subst ht
      simp only [if_true] at h
      simp only [xCf, if_true]
      refine headW_of_M ts l (acc ++ [o]) (k + 1) a hl' hj' (fun a' ha' => hK a' ?_) h
      simp only [tlFrom, if_true, List.filterMap_cons_some h0]
      simpa using ha'
    · rw [if_neg ht] at h
      obtain ⟨v, h1, h2, hr⟩ := h
      simp only [xCf, if_neg ht]
      refine ⟨o, v, h0, fun hb => h1 (by simpa using hb), fun hb => h2 (by simpa using hb), headW_of_M ts l acc (k + 1) _ hl' hj' (fun a' ha' => hK a' ?_) hr⟩
      simp only [tlFrom, if_neg ht]
      exact ha'
end
attribute [go_sem] uponTo
section
variable {P : Program} {ops : Array Oper} {B0 : Nat} {w0 : World} {L L' : List (Nat × Obj)} {ts : List Nat} {r acc : List Oper} {o : Oper} {a : Act} {K : List Oper → Act → Prop} {I : (World → Prop) → Prop} {C : World → Prop} {Q : Exit → Act → World → Prop} {Kp : List (Nat × Obj)}
def keeps (B0 : Nat) (w0 : World) (Kp : List (Nat × Obj)) : (World → Prop) → Prop := fun C => ∃ L, C = Rep B0 w0 L ∧ ∀ p, p ∈ Kp → p ∈ L
def picks (L : List (Nat × Obj)) (ks : List Nat) : List (Nat × Obj) := ks.filterMap (L[·]?)
theorem picks_mem (L : List (Nat × Obj)) (ks : List Nat) : ∀ p, p ∈ picks L ks → p ∈ L := fun p hp => by
  obtain ⟨k, _, h⟩ := List.mem_filterMap.1 hp
  exact List.mem_of_getElem? h
theorem xAg {id : Nat} {w : World} {l : List Oper} (hR : Rep B0 w0 L w) (ts ks : List Nat) (hm : P.follows .mixedOrders = true) (hB : ordOK l.toArray (xCf 0 ts) (tlFrom 0 ts) = true) (hlen : ts.length = l.length) (hlen2 : (xCf 0 ts).length + (tlFrom 0 ts).length = l.length)
    (h : ∀ K : List Oper → Act → Prop, (∀ tl a', tailM P l.toArray (keeps B0 w0 (picks L ks)) Q tl (Rep B0 w0 L) a' → K tl a') → xCm P l.toArray (keeps B0 w0 (picks L ks)) (Rep B0 w0 L) K ts l [] a) : (Code.region id l.toArray true).wp P Q a w := by
  have h := h _ (fun _ _ h => h)
  refine wp_region_any hm ?_
  have hlt : ∀ t ∈ tlFrom 0 ts, t < l.toArray.size := fun t ht => by
    simp only [ordOK, Bool.and_eq_true] at hB
    have := List.all_eq_true.1 hB.2 t ht
    simp only [Bool.and_eq_true, decide_eq_true_eq] at this
    exact this.1
  have := wpAny_ord (w := w.drew) (Q := Q) (xCf 0 ts) (tlFrom 0 ts) hB hR.drew ⟨L, rfl, picks_mem L ks⟩ (headW_of_M (K := tailW P l.toArray (keeps B0 w0 (picks L ks)) Q (tlFrom 0 ts) (Rep B0 w0 L)) ts l [] 0 a hlen (fun j => by simp) (fun a' ha' => tailW_of_M _ _ a' hlt (by simpa using ha')) h)
  rw [hlen2] at this
  simpa using this
theorem xBs (h : K acc a) : xCm P ops I C K [] [] acc a := h
theorem xBj (h : xCm P ops I C K ts r (acc ++ [o]) a) : xCm P ops I C K (2 :: ts) (o :: r) acc a := h
theorem xDo {m : Nat} (hm : m ≠ 2) (hw : Region.wanted o (yielded ops a.tmps) = true) {v : Value} (hrun : ∀ w, (execOp a.eval o).run P w = .ok (.value v) w) {a' : Act} (ha : a.put o.dst v = a') (h : xCm P ops I C K ts r acc a') : xCm P ops I C K (m :: ts) (o :: r) acc a := by
  have q : ∀ C' : World → Prop, xBy P ops o v a C' C' := fun C' => .inl ⟨hw, fun w hC => by rw [hrun w]; exact ⟨rfl, hC⟩⟩
  unfold xCm
  rw [if_neg hm]
  exact ⟨v, fun _ C' _ => q C', fun _ => q C, by rw [ha]; exact h⟩
theorem xAs {m : Nat} (hm : m ≠ 2) (hw : Region.wanted o (yielded ops a.tmps) = true) {x : Operand} (hop : o.op = .move x ∨ o.op = .assign x) {v : Value} (hx' : ev a x = some v) {a' : Act} (ha : a.put o.dst v = a') (h : xCm P ops I C K ts r acc a') : xCm P ops I C K (m :: ts) (o :: r) acc a :=
  xDo hm hw (fun w => by have hx := xBt hx'; unfold execOp; subst hx; rcases hop with h | h <;> rw [h] <;> rfl) ha h
theorem xBk {m : Nat} (hm : m ≠ 2) (hw : Region.wanted o (yielded ops a.tmps) = false) {a' : Act} (ha : a.put o.dst undef = a') (h : xCm P ops I C K ts r acc a') : xCm P ops I C K (m :: ts) (o :: r) acc a := by
  unfold xCm
  rw [if_neg hm]
  exact ⟨undef, fun _ _ _ => .inr ⟨hw, rfl, fun _ h => h⟩, fun _ => .inr ⟨hw, rfl, fun _ h => h⟩, by rw [ha]; exact h⟩
theorem hd_step (hw : Region.wanted o (yielded ops a.tmps) = true) {v : Value} (hq : ∀ w, C w → uponTo P C v ((execOp a.eval o).run P w)) {a' : Act} (ha : a.put o.dst v = a') (h : xCm P ops I C K ts r acc a') : xCm P ops I C K (0 :: ts) (o :: r) acc a := by
  unfold xCm
  rw [if_neg (by decide)]
  exact ⟨v, fun h1 => (nomatch h1), fun _ => .inl ⟨hw, hq⟩, by rw [ha]; exact h⟩
theorem xAm (hw : Region.wanted o (yielded ops a.tmps) = true) {ty : TypeId} {x : Operand} (hop : o.op = .load ty x) {n : Nat} {b off : Nat} (hx : a.eval x = .pointer (some ⟨b, off, none⟩)) (hT : RowT P ty n) {l vs : List Value} {t : TypeId}
    (hm : (b, Obj.cells l.toArray t) ∈ L) (hv : (l.drop off).take n = vs) (hn : vs.length = n) {a' : Act} (ha : a.put o.dst (.agg vs.toArray) = a') (h : xCm P ops I (Rep B0 w0 L) K ts r acc a') : xCm P ops I (Rep B0 w0 L) K (0 :: ts) (o :: r) acc a :=
  hd_step hw (fun w hR => by
    unfold execOp
    simp only [hop, hx, Instr.loadAt, Instr.sureAddr, Sem.run_bind, Sem.run_pure, Result.andThen_ok, hR.loadRow (P := P) (ty := ty) hm hv hn]
    exact ⟨rfl, hR⟩) ha h
theorem xAr (hw : Region.wanted o (yielded ops a.tmps) = true) {ty : TypeId} {x : Operand} (hop : o.op = .load ty x) {n : Nat} {b : Nat} (hx : a.eval x = .pointer (some ⟨b, 0, none⟩)) (hT : RowT P ty n) {l : List Value} {t : TypeId}
    (hm : (b, Obj.cells l.toArray t) ∈ L) (hn : l.length = n) {a' : Act} (ha : a.put o.dst (.agg l.toArray) = a') (h : xCm P ops I (Rep B0 w0 L) K ts r acc a') : xCm P ops I (Rep B0 w0 L) K (0 :: ts) (o :: r) acc a :=
  xAm hw hop hx hT hm (by simp [← hn]) hn ha h
theorem xAi (hw : Region.wanted o (yielded ops a.tmps) = true) {ty : TypeId} {x : Operand} (hop : o.op = .load ty x) {b off : Nat} (hx : a.eval x = .pointer (some ⟨b, off, none⟩)) (hT : CellT P ty) {l : List Value} {v : Value} {t : TypeId}
    (hm : (b, Obj.cells l.toArray t) ∈ L) (hv : l[off]? = some v) {a' : Act} (ha : a.put o.dst v = a') (h : xCm P ops I (Rep B0 w0 L) K ts r acc a') : xCm P ops I (Rep B0 w0 L) K (0 :: ts) (o :: r) acc a :=
  hd_step hw (fun w hR => by
    unfold execOp
    simp only [hop, hx, Instr.loadAt, Instr.sureAddr, Sem.run_bind, Sem.run_pure, Result.andThen_ok, hR.loadCell (P := P) (ty := ty) hm hv]
    exact ⟨rfl, hR⟩) ha h
theorem hd_keep (hw : Region.wanted o (yielded ops a.tmps) = true) {v : Value} (hq : ∀ L w, (∀ p, p ∈ Kp → p ∈ L) → Rep B0 w0 L w → uponTo P (Rep B0 w0 L) v ((execOp a.eval o).run P w)) {a' : Act} (ha : a.put o.dst v = a') (h : xCm P ops (keeps B0 w0 Kp) C K ts r acc a') : xCm P ops (keeps B0 w0 Kp) C K (1 :: ts) (o :: r) acc a := by
  unfold xCm
  rw [if_neg (by decide)]
  exact ⟨v, fun _ C' ⟨L, hC, hL⟩ => by subst hC; exact .inl ⟨hw, fun w hw' => hq L w hL hw'⟩, fun h1 => absurd rfl h1, by rw [ha]; exact h⟩
theorem xAn (hw : Region.wanted o (yielded ops a.tmps) = true) {ty : TypeId} {x : Operand} (hop : o.op = .load ty x) {n : Nat} {b off : Nat} (hx : a.eval x = .pointer (some ⟨b, off, none⟩)) (hT : RowT P ty n) {l vs : List Value} {t : TypeId}
    (hm : (b, Obj.cells l.toArray t) ∈ Kp) (hv : (l.drop off).take n = vs) (hn : vs.length = n) {a' : Act} (ha : a.put o.dst (.agg vs.toArray) = a') (h : xCm P ops (keeps B0 w0 Kp) C K ts r acc a') : xCm P ops (keeps B0 w0 Kp) C K (1 :: ts) (o :: r) acc a :=
  hd_keep hw (fun L w hL hR => by
    unfold execOp
    simp only [hop, hx, Instr.loadAt, Instr.sureAddr, Sem.run_bind, Sem.run_pure, Result.andThen_ok, hR.loadRow (P := P) (ty := ty) (hL _ hm) hv hn]
    exact ⟨rfl, hR⟩) ha h
theorem xAj (hw : Region.wanted o (yielded ops a.tmps) = true) {ty : TypeId} {x : Operand} (hop : o.op = .load ty x) {b off : Nat} (hx : a.eval x = .pointer (some ⟨b, off, none⟩)) (hT : CellT P ty) {l : List Value} {v : Value} {t : TypeId}
    (hm : (b, Obj.cells l.toArray t) ∈ Kp) (hv : l[off]? = some v) {a' : Act} (ha : a.put o.dst v = a') (h : xCm P ops (keeps B0 w0 Kp) C K ts r acc a') : xCm P ops (keeps B0 w0 Kp) C K (1 :: ts) (o :: r) acc a :=
  hd_keep hw (fun L w hL hR => by
    unfold execOp
    simp only [hop, hx, Instr.loadAt, Instr.sureAddr, Sem.run_bind, Sem.run_pure, Result.andThen_ok, hR.loadCell (P := P) (ty := ty) (hL _ hm) hv]
    exact ⟨rfl, hR⟩) ha h
theorem xBi {f : FuncId} {fn : Func} (hf : P.funcs[f]? = some fn) (hname : (fn.name == "runtime.NumGoroutine") = false) (hb : fn.body.isNone = false) (args : Array Value) (w : World) : (callFunc f args).run P w = .ok (.enter f args) w := by
  have h1 : fn.name ≠ "runtime.NumGoroutine" := by simpa using hname
  have h2 : fn.body ≠ none := fun h => by rw [h] at hb; cases hb
  simp [callFunc, hf, h1, h2]
section
variable {m : Nat}
theorem ok_value (s : Sem Value) {w : World} {v : Value} (h : s.run P w = .ok v w) : (do pure (Next.value (← s)) : Sem Next).run P w = .ok (.value v) w := by
  rw [Sem.run_bind, h]; rfl
theorem xAd (hm : m ≠ 2) (hw : Region.wanted o (yielded ops a.tmps) = true) {t : TypeId} {x y : Operand} (hop : o.op = .indexAddr t x y) {vx vy v : Value} (hx' : ev a x = some vx) (hy' : ev a y = some vy) (hrun : ∀ w, (Instr.indexAt t vx vy).run P w = .ok v w)
    {a' : Act} (ha : a.put o.dst v = a') (h : xCm P ops I C K ts r acc a') : xCm P ops I C K (m :: ts) (o :: r) acc a :=
  xDo hm hw (fun w => by have hx := xBt hx'; have hy := xBt hy'; unfold execOp; simp only [hop, hx, hy]; exact ok_value _ (hrun w)) ha h
theorem xBd (hm : m ≠ 2) (hw : Region.wanted o (yielded ops a.tmps) = true) {t : TypeId} {x y : Operand} (hop : o.op = .index t x y) {vx vy v : Value} (hx' : ev a x = some vx) (hy' : ev a y = some vy) (hrun : ∀ w, (Instr.index t vx vy).run P w = .ok v w)
    {a' : Act} (ha : a.put o.dst v = a') (h : xCm P ops I C K ts r acc a') : xCm P ops I C K (m :: ts) (o :: r) acc a :=
  xDo hm hw (fun w => by have hx := xBt hx'; have hy := xBt hy'; unfold execOp; simp only [hop, hx, hy]; exact ok_value _ (hrun w)) ha h
theorem xBf (hm : m ≠ 2) (hw : Region.wanted o (yielded ops a.tmps) = true) {op : BinOp} {t u : TypeId} {x y : Operand} (hop : o.op = .binOp op t x y u) {vx vy v : Value} (hx' : ev a x = some vx) (hy' : ev a y = some vy)
    (hrun : ∀ w, (do eqGuard op t x y vx vy; binOp op t vx vy : Sem Value).run P w = .ok v w)
    {a' : Act} (ha : a.put o.dst v = a') (h : xCm P ops I C K ts r acc a') : xCm P ops I C K (m :: ts) (o :: r) acc a :=
  xDo hm hw (fun w => by have hx := xBt hx'; have hy := xBt hy'; unfold execOp; simp only [hop, hx, hy]; exact ok_value _ (hrun w)) ha h
theorem xAo (hm : m ≠ 2) (hw : Region.wanted o (yielded ops a.tmps) = true) {t u : TypeId} {x : Operand} (hop : o.op = .convert t u x) {vx v : Value} (hx' : ev a x = some vx) (hrun : ∀ w, (convert t u vx).run P w = .ok v w)
    {a' : Act} (ha : a.put o.dst v = a') (h : xCm P ops I C K ts r acc a') : xCm P ops I C K (m :: ts) (o :: r) acc a :=
  xDo hm hw (fun w => by have hx := xBt hx'; unfold execOp; simp only [hop, hx]; exact ok_value _ (hrun w)) ha h
theorem xAe (hm : m ≠ 2) (hw : Region.wanted o (yielded ops a.tmps) = true) {t : TypeId} {x : Operand} {f : Nat} (hop : o.op = .fieldAddr t x f) {vx v : Value} (hx' : ev a x = some vx) (hrun : ∀ w, (Instr.fieldAt t vx f).run P w = .ok v w)
    {a' : Act} (ha : a.put o.dst v = a') (h : xCm P ops I C K ts r acc a') : xCm P ops I C K (m :: ts) (o :: r) acc a :=
  xDo hm hw (fun w => by have hx := xBt hx'; unfold execOp; simp only [hop, hx]; exact ok_value _ (hrun w)) ha h
theorem xAp (hm : m ≠ 2) (hw : Region.wanted o (yielded ops a.tmps) = true) {x : Operand} {i : Nat} (hop : o.op = .extract x i) {vx v : Value} (hx' : ev a x = some vx) (hrun : ∀ w, (Instr.extract vx i).run P w = .ok v w)
    {a' : Act} (ha : a.put o.dst v = a') (h : xCm P ops I C K ts r acc a') : xCm P ops I C K (m :: ts) (o :: r) acc a :=
  xDo hm hw (fun w => by have hx := xBt hx'; unfold execOp; simp only [hop, hx]; exact ok_value _ (hrun w)) ha h
theorem xBb (hm : m ≠ 2) (hw : Region.wanted o (yielded ops a.tmps) = true) {t : TypeId} {parts : Array (Nat × Operand)} (hop : o.op = .build t parts) {v : Value}
    (hrun : ∀ w, (Instr.build t (parts.map fun p => (p.1, a.eval p.2))).run P w = .ok v w)
    {a' : Act} (ha : a.put o.dst v = a') (h : xCm P ops I C K ts r acc a') : xCm P ops I C K (m :: ts) (o :: r) acc a :=
  xDo hm hw (fun w => by unfold execOp; simp only [hop]; exact ok_value _ (hrun w)) ha h
theorem xBl (hm : m ≠ 2) (hw : Region.wanted o (yielded ops a.tmps) = true) {x y z : Operand} (hop : o.op = .pick x y z) {b : Bool} {v : Value} (hx : a.eval x = .bool b) (hv' : ev a (if b then y else z) = some v)
    {a' : Act} (ha : a.put o.dst v = a') (h : xCm P ops I C K ts r acc a') : xCm P ops I C K (m :: ts) (o :: r) acc a :=
  xDo hm hw (fun w => by unfold execOp; have hv := xBt hv'; simp only [hop, hx]; rw [← hv]; cases b <;> rfl) ha h
theorem xAh (hm : m ≠ 2) (hw : Region.wanted o (yielded ops a.tmps) = true) {x : Operand} (hop : o.op = .nilCheck x) {ad : Addr} (hx : a.eval x = .pointer (some ad))
    {a' : Act} (ha : a.put o.dst (.pointer (some ad)) = a') (h : xCm P ops I C K ts r acc a') : xCm P ops I C K (m :: ts) (o :: r) acc a :=
  xDo hm hw (fun w => by unfold execOp; simp only [hop, hx]; rfl) ha h
theorem xBc (hm : m ≠ 2) (hw : Region.wanted o (yielded ops a.tmps) = true) {t : TypeId} {x : Operand} {lo hi mx : Option Operand} (hop : o.op = .slice t x lo hi mx) {vx v : Value} {vl vh vm : Option Value} (hx' : ev a x = some vx) (hl' : evO a lo = some vl) (hh' : evO a hi = some vh) (hmx' : evO a mx = some vm)
    (hrun : ∀ w, (Instr.sliceAt t vx vl vh vm).run P w = .ok v w)
    {a' : Act} (ha : a.put o.dst v = a') (h : xCm P ops I C K ts r acc a') : xCm P ops I C K (m :: ts) (o :: r) acc a :=
  xDo hm hw (fun w => by have hx := xBt hx'; have hl := evO_eval hl'; have hh := evO_eval hh'; have hmx := evO_eval hmx'; unfold execOp; simp only [hop, hx, hl, hh, hmx]; exact ok_value _ (hrun w)) ha h
theorem xAq (hm : m ≠ 2) (hw : Region.wanted o (yielded ops a.tmps) = true) {t : TypeId} {x : Operand} (hop : o.op = .sliceToArrayPointer t x) {vx v : Value} (hx' : ev a x = some vx) (hrun : ∀ w, (Instr.arrayAt t vx).run P w = .ok v w)
    {a' : Act} (ha : a.put o.dst v = a') (h : xCm P ops I C K ts r acc a') : xCm P ops I C K (m :: ts) (o :: r) acc a :=
  xDo hm hw (fun w => by have hx := xBt hx'; unfold execOp; simp only [hop, hx]; exact ok_value _ (hrun w)) ha h
theorem xBe (hm : m ≠ 2) (hw : Region.wanted o (yielded ops a.tmps) = true) {t : TypeId} {x : Operand} {f : Nat} (hop : o.op = .field t x f) {vx v : Value} (hx' : ev a x = some vx) (hrun : ∀ w, (Instr.field t vx f).run P w = .ok v w)
    {a' : Act} (ha : a.put o.dst v = a') (h : xCm P ops I C K ts r acc a') : xCm P ops I C K (m :: ts) (o :: r) acc a :=
  xDo hm hw (fun w => by have hx := xBt hx'; unfold execOp; simp only [hop, hx]; exact ok_value _ (hrun w)) ha h
theorem hd_extern (hm : m ≠ 2) (hw : Region.wanted o (yielded ops a.tmps) = true) {f : FuncId} {xs : List Operand} {us : Array TypeId} (hop : o.op = .call { callee := .value (.func f), args := xs.toArray, argTypes := us }) {vs : List Value} {v : Value} (hx' : evL a xs = some vs)
    (hrun : ∀ w, (callFunc f vs.toArray).run P w = .ok (.value v) w) {a' : Act} (ha : a.put o.dst v = a') (h : xCm P ops I C K ts r acc a') : xCm P ops I C K (m :: ts) (o :: r) acc a :=
  xDo hm hw (fun w => by
    have hx := xDb hx'
    unfold execOp
    simp only [hop, resolve, Deferred.ofValue, Act.eval, Sem.run_bind, Sem.run_pure, Result.andThen_ok, hx]
    have := hrun w
    simpa [invoke] using this) ha h
theorem xBg (hw : Region.wanted o (yielded ops a.tmps) = true) {f : FuncId} {xs : List Operand} {us : Array TypeId} (hop : o.op = .call { callee := .value (.func f), args := xs.toArray, argTypes := us }) {vs : List Value} {v : Value} (hx' : evL a xs = some vs)
    (hent : ∀ w, (callFunc f vs.toArray).run P w = .ok (.enter f vs.toArray) w) (hq : ∀ w, Calls P f vs.toArray w fun e w' => e = .returned v ∧ Below w.heap.size w w')
    {a' : Act} (ha : a.put o.dst v = a') (h : xCm P ops I (Rep B0 w0 L) K ts r acc a') : xCm P ops I (Rep B0 w0 L) K (0 :: ts) (o :: r) acc a :=
  hd_step hw (fun w hR => by
    have e : (execOp a.eval o).run P w = .ok (.enter f vs.toArray) w := by
      have hx := xDb hx'
      unfold execOp
      simp only [hop, resolve, Deferred.ofValue, Act.eval, Sem.run_bind, Sem.run_pure, Result.andThen_ok, hx]
      have := hent w
      simpa [invoke] using this
    rw [e]
    exact (hq w).mono fun e' w' ⟨he, hb⟩ => ⟨he, hR.call hb⟩) ha h
end
theorem xBx (h : ∀ Q' : Exit → Act → World → Prop, (∀ a w, Q .normal a w → Q' .normal a w) → tailM P ops I Q' r C a) : tailM P ops I Q r C a := h Q (fun _ _ h => h)
theorem xBw (h : ∀ w, C w → Q .normal a w) : tailM P ops I Q [] C a := h
theorem xBm (hw : Region.wanted o (yielded ops a.tmps) = true) {v : Value} (hrun : ∀ w, (execOp a.eval o).run P w = .ok (.value v) w) (hk : ∀ p, p ∈ Kp → p ∈ L) {a' : Act} (ha : a.put o.dst v = a') (h : tailM P ops (keeps B0 w0 Kp) Q r (Rep B0 w0 L) a') : tailM P ops (keeps B0 w0 Kp) Q (o :: r) (Rep B0 w0 L) a :=
  ⟨v, Rep B0 w0 L, .inl ⟨hw, fun w hC => by rw [hrun w]; exact ⟨rfl, hC⟩⟩, ⟨L, rfl, hk⟩, by rw [ha]; exact h⟩
theorem xBa (hw : Region.wanted o (yielded ops a.tmps) = true) {x : Operand} (hop : o.op = .move x ∨ o.op = .assign x) {v : Value} (hx' : ev a x = some v) (hk : ∀ p, p ∈ Kp → p ∈ L) {a' : Act} (ha : a.put o.dst v = a') (h : tailM P ops (keeps B0 w0 Kp) Q r (Rep B0 w0 L) a') : tailM P ops (keeps B0 w0 Kp) Q (o :: r) (Rep B0 w0 L) a :=
  xBm hw (fun w => by have hx := xBt hx'; unfold execOp; subst hx; rcases hop with h | h <;> rw [h] <;> rfl) hk ha h
theorem xAw (hw : Region.wanted o (yielded ops a.tmps) = true) {ty : TypeId} {x y : Operand} (hop : o.op = .store ty x y) {n : Nat} {b off : Nat} (hx : a.eval x = .pointer (some ⟨b, off, none⟩)) (hT : RowT P ty n) {l l' vs : List Value} {t : TypeId}
    (hy : a.eval y = .agg vs.toArray) (h1 : vs.all (·.oneCell') = true) (hvn : vs.length = n) (hs : xAx L b (.cells l.toArray t) (.cells l'.toArray t) L') (hn : off + n ≤ l.length) (hl : l.take off ++ vs ++ l.drop (off + n) = l')
    (hk : ∀ p, p ∈ Kp → p ∈ L') {a' : Act} (ha : a.put o.dst undef = a') (h : tailM P ops (keeps B0 w0 Kp) Q r (Rep B0 w0 L') a') : tailM P ops (keeps B0 w0 Kp) Q (o :: r) (Rep B0 w0 L) a :=
  ⟨undef, _, .inl ⟨hw, fun w hR => by
    obtain ⟨w', e, hR'⟩ := hR.storeRow (P := P) (ty := ty) h1 hvn hs hn hl
    unfold execOp
    simp only [hop, hx, hy, Instr.storeAt, Instr.sureAddr, Sem.run_bind, Sem.run_pure, Result.andThen_ok, e]
    exact ⟨rfl, hR'⟩⟩, ⟨L', rfl, hk⟩, by rw [ha]; exact h⟩
theorem xAv (hw : Region.wanted o (yielded ops a.tmps) = true) {ty : TypeId} {x y : Operand} (hop : o.op = .store ty x y) {n : Nat} {b : Nat} (hx : a.eval x = .pointer (some ⟨b, 0, none⟩)) (hT : RowT P ty n) {l vs : List Value} {t : TypeId}
    (hy : a.eval y = .agg vs.toArray) (hs : xAx L b (.cells l.toArray t) (.cells vs.toArray t) L') (h1 : vs.all (·.oneCell') = true) (hvn : vs.length = n) (hn : l.length = n)
    (hk : ∀ p, p ∈ Kp → p ∈ L') {a' : Act} (ha : a.put o.dst undef = a') (h : tailM P ops (keeps B0 w0 Kp) Q r (Rep B0 w0 L') a') : tailM P ops (keeps B0 w0 Kp) Q (o :: r) (Rep B0 w0 L) a :=
  xAw hw hop hx hT hy h1 hvn hs (by omega) (by simp [← hn]) hk ha h
theorem xAl (hw : Region.wanted o (yielded ops a.tmps) = true) {ty : TypeId} {x y : Operand} (hop : o.op = .store ty x y) {b off : Nat} (hx : a.eval x = .pointer (some ⟨b, off, none⟩)) (hT : CellT P ty) {l l' : List Value} {v : Value} {t : TypeId}
    (hy' : ev a y = some v) (h1 : v.oneCell' = true) (hs : xAx L b (.cells l.toArray t) (.cells l'.toArray t) L') (hn : off < l.length) (hl : l.set off v = l')
    (hk : ∀ p, p ∈ Kp → p ∈ L') {a' : Act} (ha : a.put o.dst undef = a') (h : tailM P ops (keeps B0 w0 Kp) Q r (Rep B0 w0 L') a') : tailM P ops (keeps B0 w0 Kp) Q (o :: r) (Rep B0 w0 L) a :=
  ⟨undef, _, .inl ⟨hw, fun w hR => by
    have hy := xBt hy'
    obtain ⟨w', e, hR'⟩ := hR.storeCell (P := P) (ty := ty) h1 hs hn hl
    unfold execOp
    simp only [hop, hx, hy, Instr.storeAt, Instr.sureAddr, Sem.run_bind, Sem.run_pure, Result.andThen_ok, e]
    exact ⟨rfl, hR'⟩⟩, ⟨L', rfl, hk⟩, by rw [ha]; exact h⟩
theorem xBq {fn : Func} {p : Tmp} {ty : TypeId} (h : fn.results = #[.cell p ty]) {tmps : Array Value} {w : World} {ad : Addr} {v : Value} (hp : tmps.getD p undef = .pointer (some ad)) (hl : (loadVar ty ad).run P w = .ok v w) :
    (results fn tmps).run P w = .ok v w := by
  have hp' : tmps[p]?.getD undef = .pointer (some ad) := by simpa using hp
  simp [results, h, hp', asAddr, hl]
theorem xAz {fn : Func} {p u : Tmp} {ty : TypeId} (h : fn.results = #[.cell p ty, .tmp u]) {tmps : Array Value} {w : World} {ad : Addr} {v : Value} (hp : tmps.getD p undef = .pointer (some ad)) (hl : (loadVar ty ad).run P w = .ok v w) :
    (results fn tmps).run P w = .ok (.tuple #[v, tmps.getD u undef]) w := by
  have hp' : tmps[p]?.getD undef = .pointer (some ad) := by simpa using hp
  simp [results, h, hp', asAddr, hl]
theorem results_cc {fn : Func} {p q : Tmp} {ty uy : TypeId} (h : fn.results = #[.cell p ty, .cell q uy]) {tmps : Array Value} {w : World} {ad bd : Addr} {v u : Value} (hp : tmps.getD p undef = .pointer (some ad)) (hl : (loadVar ty ad).run P w = .ok v w)
    (hq : tmps.getD q undef = .pointer (some bd)) (hk : (loadVar uy bd).run P w = .ok u w) : (results fn tmps).run P w = .ok (.tuple #[v, u]) w := by
  have hp' : tmps[p]?.getD undef = .pointer (some ad) := by simpa using hp
  have hq' : tmps[q]?.getD undef = .pointer (some bd) := by simpa using hq
  simp [results, h, hp', hq', asAddr, hl, hk]
end
end Go.Proofs.YtgfoeongjhkdmaaGreat
namespace Go.Proofs.YtgfoeongjhkdmaaGreat
open Go.RowKit
structure Held (p : Prop) : Prop where
  out : p
def agree : List Bool → List Value → List Value → Prop
  | true :: m, _ :: b, _ :: t => agree m b t
  | false :: m, y :: b, x :: t => x = y ∧ agree m b t
  | [], [], [] => True
  | _, _, _ => False
theorem xAf {m y b l} (h : agree (true :: m) (y :: b) l) : ∃ x t, l = x :: t ∧ agree m b t := by
  cases l with
  | nil => exact h.elim
  | cons x t => exact ⟨x, t, rfl, h⟩
theorem xAc {m y b l} (h : agree (false :: m) (y :: b) l) : ∃ t, l = y :: t ∧ agree m b t := by
  cases l with
  | nil => exact h.elim
  | cons x t => exact ⟨t, by rw [h.1], h.2⟩
theorem xAk {l} (h : agree [] [] l) : l = [] := by
  cases l with
  | nil => rfl
  | cons x t => exact h.elim
def strip : List Bool → List Value → List Value
  | true :: m, _ :: b => undef :: strip m b
  | false :: m, y :: b => y :: strip m b
  | _, _ => []
theorem xAu : ∀ {m b t}, b.length = m.length → t.length = m.length → strip m t = strip m b → agree m b t
  | [], [], [], _, _, _ => trivial
  | true :: m, _ :: _, _ :: _, h1, h2, h => xAu (m := m) (Nat.succ.inj h1) (Nat.succ.inj h2) (List.cons.inj h).2
  | false :: m, _ :: _, _ :: _, h1, h2, h => ⟨(List.cons.inj h).1, xAu (m := m) (Nat.succ.inj h1) (Nat.succ.inj h2) (List.cons.inj h).2⟩
theorem loop_cut {P : Program} {c : Code} {Q : Exit → Act → World → Prop} {l : List Value} {d : List Deferred} {w : World} (mask : List Bool) (i : Nat) (v : Value) (E : Exit)
    (h1 : ∀ Q' : Exit → Act → World → Prop, Held (∀ tm, agree mask (l.set i v) tm → Q' E ⟨tm.toArray, d⟩ w) → (Code.loop c).wp P Q' ⟨l.toArray, d⟩ w)
    (h2 : ∀ tm, agree mask (l.set i v) tm → Q E ⟨tm.toArray, d⟩ w) : (Code.loop c).wp P Q ⟨l.toArray, d⟩ w := h1 Q ⟨h2⟩
theorem xCa {P : Program} {c : Code} {Q : Exit → Act → World → Prop} {l : List Value} {d : List Deferred} {w w0 : World} {B0 : Nat} (mask : List Bool) (upd : Nat → List Value → List Value) (L : Nat → List (Nat × Obj)) (n : Nat)
    (h0 : agree mask (upd n l) l) (hR : Rep B0 w0 (L n) w)
    (hs : ∀ j tm w, j < n → agree mask (upd (j + 1) l) tm → Rep B0 w0 (L (j + 1)) w → ∀ K : Act → World → Prop, Held (∀ tm' w', agree mask (upd j l) tm' → Rep B0 w0 (L j) w' → K ⟨tm'.toArray, d⟩ w') → c.wp P (Exit.then K Q) ⟨tm.toArray, d⟩ w)
    (he : ∀ tm w, agree mask (upd 0 l) tm → Rep B0 w0 (L 0) w → ∀ K : Act → World → Prop, c.wp P (Exit.then K Q) ⟨tm.toArray, d⟩ w) : (Code.loop c).wp P Q ⟨l.toArray, d⟩ w := by
  have key : ∀ j, j ≤ n → ∀ tm w, agree mask (upd j l) tm → Rep B0 w0 (L j) w → Code.rounds P c Q (j + 1) ⟨tm.toArray, d⟩ w := by
    intro j
    induction j with
    | zero => intro _ tm w h1 h2; exact he tm w h1 h2 _
    | succ j ih =>
      intro hj tm w h1 h2
      exact hs j tm w hj h1 h2 _ ⟨fun tm' w' h1' h2' => ih (by omega) tm' w' h1' h2'⟩
  exact wp_loop_rounds (n + 1) (key n (Nat.le_refl n) l w h0 hR)
end Go.Proofs.YtgfoeongjhkdmaaGreat
namespace Go.Proofs.YtgfoeongjhkdmaaGreat
open Go.RowKit
section
variable {P : Program} {ops : Array Oper} {rest : List Oper} {o : Oper} {a : Act} {w w0 : World} {Q : Exit → Act → World → Prop} {B0 : Nat} {L : List (Nat × Obj)}
theorem wpList_wanted (hw : Region.wanted o (yielded ops a.tmps) = true) (h : ∀ K : Act → World → Prop, (∀ a w, wpList P ops Q rest a w → K a w) → o.wp P a w K Q) : wpList P ops Q (o :: rest) a w :=
  wpList_step fun K hK => by simp only [hw, if_true]; exact h K hK
theorem xBh (hR : Rep B0 w0 L w) (hg : Region.wanted o (yielded ops a.tmps) = true) {ty : TypeId} {x : Operand} (ho : o.op = .load ty x) {n : Nat} {b off : Nat} (hx : a.eval x = .pointer (some ⟨b, off, none⟩)) (hT : RowT P ty n) {l vs : List Value} {t : TypeId}
    (hm : (b, Obj.cells l.toArray t) ∈ L) (hv : (l.drop off).take n = vs) (hn : vs.length = n) (h : wpList P ops Q rest (a.put o.dst (.agg vs.toArray)) w) : wpList P ops Q (o :: rest) a w :=
  wpList_wanted hg fun _ hK => by
    unfold Oper.wp execOp
    simp only [ho, hx, Instr.loadAt, Instr.sureAddr, Sem.run_bind, Sem.run_pure, Result.andThen_ok, hR.loadRow (P := P) (ty := ty) hm hv hn]
    exact hK _ _ h
theorem xAy (hR : Rep B0 w0 L w) (hg : Region.wanted o (yielded ops a.tmps) = true) {ty : TypeId} {x : Operand} (ho : o.op = .load ty x) {n : Nat} {b : Nat} (hx : a.eval x = .pointer (some ⟨b, 0, none⟩)) (hT : RowT P ty n) {l : List Value} {t : TypeId}
    (hm : (b, Obj.cells l.toArray t) ∈ L) (hn : l.length = n) (h : wpList P ops Q rest (a.put o.dst (.agg l.toArray)) w) : wpList P ops Q (o :: rest) a w :=
  xBh hR hg ho hx hT hm (by simp [← hn]) hn h
theorem xAt (hR : Rep B0 w0 L w) (hg : Region.wanted o (yielded ops a.tmps) = true) {ty : TypeId} {x : Operand} (ho : o.op = .load ty x) {b off : Nat} (hx : a.eval x = .pointer (some ⟨b, off, none⟩)) (hT : CellT P ty) {l : List Value} {v : Value} {t : TypeId}
    (hm : (b, Obj.cells l.toArray t) ∈ L) (hv : l[off]? = some v) (h : wpList P ops Q rest (a.put o.dst v) w) : wpList P ops Q (o :: rest) a w :=
  wpList_wanted hg fun _ hK => by
    unfold Oper.wp execOp
    simp only [ho, hx, Instr.loadAt, Instr.sureAddr, Sem.run_bind, Sem.run_pure, Result.andThen_ok, hR.loadCell (P := P) (ty := ty) hm hv]
    exact hK _ _ h
end
end Go.Proofs.YtgfoeongjhkdmaaGreat
namespace Go.Proofs.YtgfoeongjhkdmaaGreat
open Go.RowKit
section
variable {P : Program} {ops : Array Oper} {B0 : Nat} {w0 : World} {L : List (Nat × Obj)} {ts : List Nat} {r acc : List Oper} {o : Oper} {a : Act} {K : List Oper → Act → Prop} {I : (World → Prop) → Prop} {C : World → Prop}
theorem hd_callR (hw : Region.wanted o (yielded ops a.tmps) = true) {f : FuncId} {xs : List Operand} {us : Array TypeId} (hop : o.op = .call { callee := .value (.func f), args := xs.toArray, argTypes := us }) {vs : List Value} {v : Value} (hx' : evL a xs = some vs)
    (hent : ∀ w, (callFunc f vs.toArray).run P w = .ok (.enter f vs.toArray) w) (hq : ∀ w, Rep B0 w0 L w → Calls P f vs.toArray w fun e w' => e = .returned v ∧ Rep B0 w0 L w')
    {a' : Act} (ha : a.put o.dst v = a') (h : xCm P ops I (Rep B0 w0 L) K ts r acc a') : xCm P ops I (Rep B0 w0 L) K (0 :: ts) (o :: r) acc a :=
  hd_step hw (fun w hR => by
    have e : (execOp a.eval o).run P w = .ok (.enter f vs.toArray) w := by
      have hx := xDb hx'
      unfold execOp
      simp only [hop, resolve, Deferred.ofValue, Act.eval, Sem.run_bind, Sem.run_pure, Result.andThen_ok, hx]
      have := hent w
      simpa [invoke] using this
    rw [e]
    exact (hq w hR).mono fun e' w' ⟨he, hb⟩ => ⟨he, hb⟩) ha h
end
end Go.Proofs.YtgfoeongjhkdmaaGreat
namespace Go.Proofs.YtgfoeongjhkdmaaGreat
open Go.RowKit
section
variable {P : Program} {ops : Array Oper} {B0 : Nat} {w0 : World} {tl : List Nat} {Kp : List (Nat × Obj)} {Q : Exit → Act → World → Prop}
structure IsNew (P : Program) (o : Oper) (a : Act) (ob : Obj) (mk : Nat → Value) : Prop where
  guard : o.guard = none
  run : ∀ (w : World), (execOp a.eval o).run P w = .ok (.value (mk w.heap.size)) (w.alloc ob)
theorem IsNew.of_put {o : Oper} {a : Act} {ob : Obj} {mk : Nat → Value} {u : Value} {dst : Option Tmp} (hs : ∀ cs b, o.op ≠ .select cs b) (h : ∀ d, dst = some d → d ∉ o.looksAt ops) (hn : IsNew P o (a.put dst u) ob mk) : IsNew P o a ob mk :=
  ⟨hn.guard, fun w => by rw [← execOp_put o hs a dst u h]; exact hn.run w⟩
def xCx (P : Program) (ops : Array Oper) (B0 : Nat) (w0 : World) (tl : List Nat) (Kp : List (Nat × Obj)) (Q : Exit → Act → World → Prop) : Nat → Array Bool → Act → List (Nat × Obj) → Prop
  | 0, listed, a, L => Region.ready .any ops listed = [] ∧ ∀ w, Rep B0 w0 L w → Q .normal a w
  | f + 1, listed, a, L => (Region.ready .any ops listed = [] → ∀ w, Rep B0 w0 L w → Q .normal a w) ∧ ∀ i ∈ Region.ready .any ops listed, ∃ o, ops[i]? = some o ∧
      ((∃ ob mk, IsNew P o a ob mk ∧ ∀ b, xCx P ops B0 w0 tl Kp Q f (listed.setIfInBounds i true) (a.put o.dst (mk b)) ((b, ob) :: L)) ∨
       (∃ v L', xBy P ops o v a (Rep B0 w0 L) (Rep B0 w0 L') ∧ (i ∉ tl → ∀ p, p ∈ Kp → p ∈ L') ∧ xCx P ops B0 w0 tl Kp Q f (listed.setIfInBounds i true) (a.put o.dst v) L'))
theorem wpAny_of_N : ∀ (f : Nat) (listed : Array Bool) (a : Act) (L : List (Nat × Obj)) (w : World), Rep B0 w0 L w → xCx P ops B0 w0 tl Kp Q f listed a L → wpAny P .any ops Q f listed a w
  | 0, _, _, _, w, hw, h => ⟨h.1, h.2 w hw⟩
  | f + 1, listed, a, L, w, hw, h => ⟨fun h0 => h.1 h0 w hw, fun i hi => by
      obtain ⟨o, ho, ⟨ob, mk, hal, hn⟩ | ⟨v, L', hy, hk, hn⟩⟩ := h.2 i hi
      · unfold Go.wpOp
        simp only [ho]
        rw [if_pos (by simp [Region.wanted, hal.guard])]
        refine .inl ?_
        unfold Oper.wp
        rw [hal.run]
        simp only [Oper.upon]
        exact wpAny_of_N f _ _ _ _ (hw.alloc ob) (hn _)
      · exact hy.wpOp ho hw fun w' hw' => wpAny_of_N f _ _ _ w' hw' hn⟩
theorem wpAnyN_mono {Kp' : List (Nat × Obj)} (hK : ∀ p, p ∈ Kp → p ∈ Kp') : ∀ (f : Nat) (listed : Array Bool) (a : Act) (L : List (Nat × Obj)), xCx P ops B0 w0 tl Kp' Q f listed a L → xCx P ops B0 w0 tl Kp Q f listed a L
  | 0, _, _, _, h => h
  | f + 1, listed, a, L, h => ⟨h.1, fun i hi => by
      obtain ⟨o, ho, ⟨ob, mk, hal, hn⟩ | ⟨v, L', hy, hk, hn⟩⟩ := h.2 i hi
      · exact ⟨o, ho, .inl ⟨ob, mk, hal, fun b => wpAnyN_mono hK f _ _ _ (hn b)⟩⟩
      · exact ⟨o, ho, .inr ⟨v, L', hy, fun ht p hp => hk ht p (hK p hp), wpAnyN_mono hK f _ _ _ hn⟩⟩⟩
theorem headN_first {i : Nat} {oi : Oper} {v : Value} (hi : ops[i]? = some oi) (hs : ∀ (j : Nat) (o : Oper) cs b, ops[j]? = some o → o.op ≠ .select cs b) (hit : i ∉ tl) (htl : ∀ t ∈ tl, waitsB ops t i = true) : ∀ (fuel : Nat) (listed : Array Bool) (a : Act) (L : List (Nat × Obj)),
      (∀ j oj, ops[j]? = some oj → j ≠ i → listed.getD j true = false → (∀ e ∈ oj.after, Region.binds .any e = true → e.on ≠ i) → oi.apart ops oj = true) →
      i ∈ Region.ready .any ops listed → (∀ L', (∀ p, p ∈ Kp → p ∈ L') → xBy P ops oi v a (Rep B0 w0 L') (Rep B0 w0 L')) → (∀ p, p ∈ Kp → p ∈ L) →
      xCx P ops B0 w0 tl Kp Q fuel (listed.setIfInBounds i true) (a.put oi.dst v) L → xCx P ops B0 w0 tl Kp Q (fuel + 1) listed a L := by
  intro fuel
  induction fuel with
  | zero =>
    intro listed a L _ hr hy hL H
    refine ⟨fun h0 => (by rw [h0] at hr; cases hr), fun j hj => ?_⟩
    by_cases hji : j = i
    · subst hji
      exact ⟨oi, hi, .inr ⟨v, L, hy L hL, fun _ => hL, H⟩⟩
    · have := ready_mono hj hji
      rw [H.1] at this
      cases this
  | succ fuel ih =>
    intro listed a L hfree hr hy hL H
    refine ⟨fun h0 => (by rw [h0] at hr; cases hr), fun j hj => ?_⟩
    by_cases hji : j = i
    · subst hji
      exact ⟨oi, hi, .inr ⟨v, L, hy L hL, fun _ => hL, H⟩⟩
    · obtain ⟨oj, hoj, hH⟩ := H.2 j (ready_mono hj hji)
      obtain ⟨hjun, oj', hoj', hall⟩ := mem_ready.1 hj
      obtain rfl : oj = oj' := Option.some.inj (hoj.symm.trans hoj')
      have hnot : ∀ e ∈ oj.after, Region.binds .any e = true → e.on ≠ i := fun e he hb heq => by
        have h1 := hall e he hb
        have h0 := (mem_ready.1 hr).1
        rw [heq] at h1
        rcases Nat.lt_or_ge i listed.size with h' | h'
        · simp [h'] at h0 h1; rw [h0] at h1; cases h1
        · simp [Array.getElem?_eq_none h'] at h1
      have hjt : j ∉ tl := fun ht => by
        obtain ⟨oj2, hoj2, e, he, hb, heq⟩ := waitsB_spec (htl j ht)
        obtain rfl : oj = oj2 := Option.some.inj (hoj.symm.trans hoj2)
        exact hnot e he hb heq
      obtain ⟨p1, p2, p3⟩ := Oper.apart_spec (hfree j oj hoj hji hjun hnot)
      have next : ∀ u L', (∀ p, p ∈ Kp → p ∈ L') → xCx P ops B0 w0 tl Kp Q fuel ((listed.setIfInBounds i true).setIfInBounds j true) ((a.put oi.dst v).put oj.dst u) L' → xCx P ops B0 w0 tl Kp Q (fuel + 1) (listed.setIfInBounds j true) (a.put oj.dst u) L' := fun u L' hL' Hj => by
        refine ih (listed.setIfInBounds j true) (a.put oj.dst u) L' (fun k ok hk hki hun hno => ?_) (ready_mono hr (Ne.symm hji)) (fun L'' hL'' => (xBy.of_put (fun cs b => hs i oi cs b hi) p3).2 (hy L'' hL'')) hL' ?_
        · refine hfree k ok hk hki ?_ hno
          by_cases hjk : j = k
          · subst hjk; exact hjun
          · rw [getD_set_ne true hjk] at hun; exact hun
        · rw [Array.setIfInBounds_comm _ _ hji, ← Act.put_comm a v u p2]
          exact Hj
      rcases hH with ⟨ob, mk, hal, hn⟩ | ⟨u, L', hyj, hk, hn⟩
      · exact ⟨oj, hoj, .inl ⟨ob, mk, IsNew.of_put (fun cs b => hs j oj cs b hoj) p1 hal, fun b => next _ _ (fun p hp => .tail _ (hL p hp)) (hn b)⟩⟩
      · exact ⟨oj, hoj, .inr ⟨u, L', (xBy.of_put (fun cs b => hs j oj cs b hoj) p1).1 hyj, hk, next _ _ (hk hjt) hn⟩⟩
def headsOK (ops : Array Oper) (tl : List Nat) (ord : List (Nat × Bool)) (listed : Array Bool) : Bool := Region.noSelect ops && ordB ops (ord.map (·.1)) listed && ord.all fun i => i.2 && (!tl.contains i.1 && tl.all fun t => waitsB ops t i.1)
theorem heads_all {L : List (Nat × Obj)} (hs : ∀ (j : Nat) (o : Oper) cs b, ops[j]? = some o → o.op ≠ .select cs b) (hL : ∀ p, p ∈ Kp → p ∈ L) {K : Act → Prop} {n : Nat} : ∀ (ord : List (Nat × Bool)) (listed : Array Bool) (a : Act), ordB ops (ord.map (·.1)) listed = true → (ord.all fun i => i.2 && (!tl.contains i.1 && tl.all fun t => waitsB ops t i.1)) = true →
    headW P ops (keeps B0 w0 Kp) (Rep B0 w0 L) K ord a → (∀ a', K a' → xCx P ops B0 w0 tl Kp Q n (setAll (ord.map (·.1)) listed) a' L) → xCx P ops B0 w0 tl Kp Q (ord.length + n) listed a L
  | [], listed, a, _, _, h, hn => by rw [List.length_nil, Nat.zero_add]; exact hn a h
  | (i, b) :: r, listed, a, hB, hT, h, hn => by
    simp only [List.map_cons, ordB, Bool.and_eq_true] at hB
    obtain ⟨⟨hr, hfr⟩, hB'⟩ := hB
    simp only [List.all_cons, Bool.and_eq_true] at hT
    obtain ⟨⟨rfl, hT1, hT2⟩, hT'⟩ := hT
    obtain ⟨o, v, ho, hy, _, hK⟩ := h
    have hr' : i ∈ Region.ready .any ops listed := by simpa using hr
    rw [List.length_cons, show r.length + 1 + n = (r.length + n) + 1 by omega]
    exact headN_first ho hs (by simpa using hT1) (fun t ht => List.all_eq_true.1 hT2 t ht) (r.length + n) listed a L (Region.free_spec ho hfr) hr' (fun L' hL' => hy rfl _ ⟨L', rfl, hL'⟩) hL
      (heads_all hs hL r _ _ hB' hT' hK hn)
theorem newsHeads (Kp' : List (Nat × Obj)) {l : List Oper} {L : List (Nat × Obj)} {listed : Array Bool} {a : Act} (ts : List Nat) (n : Nat) {f : Nat} (hf : f = (xCf 0 ts).length + n) (hK : ∀ p, p ∈ Kp → p ∈ Kp') (hL : ∀ p, p ∈ Kp' → p ∈ L) (hlen : ts.length = l.length) (hB : headsOK l.toArray tl (xCf 0 ts) listed = true)
    (h : ∀ K : List Oper → Act → Prop, (∀ acc a', xCx P l.toArray B0 w0 tl Kp' Q n (setAll ((xCf 0 ts).map (·.1)) listed) a' L → K acc a') → xCm P l.toArray (keeps B0 w0 Kp') (Rep B0 w0 L) K ts l [] a) : xCx P l.toArray B0 w0 tl Kp Q f listed a L := by
  subst hf
  simp only [headsOK, Bool.and_eq_true] at hB
  obtain ⟨⟨h1, h2⟩, h3⟩ := hB
  have hW := headW_of_M (P := P) (ops := l.toArray) (I := keeps B0 w0 Kp') (C := Rep B0 w0 L) (K := fun a' => xCx P l.toArray B0 w0 tl Kp' Q n (setAll ((xCf 0 ts).map (·.1)) listed) a' L) ts l [] 0 a hlen (fun j => by simp) (fun a' ha' => ha') (h (fun _ a' => xCx P l.toArray B0 w0 tl Kp' Q n (setAll ((xCf 0 ts).map (·.1)) listed) a' L) (fun _ _ h => h))
  exact wpAnyN_mono hK _ _ _ _ (heads_all (Region.noSelect_spec h1) hL (xCf 0 ts) listed a h2 h3 hW (fun _ h => h))
theorem news_one {L : List (Nat × Obj)} {listed : Array Bool} {a : Act} (i : Nat) (di : Tmp) (oi : Oper) {ob : Obj} {mk : Nat → Value} {n : Nat} (hr : decide (Region.ready .any ops listed = [i]) = true) (hoi : ops[i]? = some oi) (hdi : oi.dst = some di) (hai : IsNew P oi a ob mk)
    (h : ∀ b, xCx P ops B0 w0 tl Kp Q n (listed.setIfInBounds i true) (a.put (some di) (mk b)) ((b, ob) :: L)) : xCx P ops B0 w0 tl Kp Q (n + 1) listed a L := by
  rw [← hdi] at h
  have hr := oD hr
  refine ⟨fun h0 => (by rw [h0] at hr; cases hr), fun k hk => ?_⟩
  rw [hr] at hk
  obtain rfl : k = i := by simpa using hk
  exact ⟨oi, hoi, .inl ⟨ob, mk, hai, h⟩⟩
theorem news_two {L : List (Nat × Obj)} {listed : Array Bool} {a : Act} (i j : Nat) (di dj : Tmp) (oi oj : Oper) {ob oc : Obj} {mk nk : Nat → Value} {n : Nat} (hr : decide (Region.ready .any ops listed = [i, j]) = true) (hoi : ops[i]? = some oi) (hoj : ops[j]? = some oj) (hdi : oi.dst = some di) (hdj : oj.dst = some dj) (hai : IsNew P oi a ob mk) (haj : IsNew P oj a oc nk)
    (h : ∀ b, xCx P ops B0 w0 tl Kp Q n (listed.setIfInBounds i true) (a.put (some di) (mk b)) ((b, ob) :: L)) (h' : ∀ b, xCx P ops B0 w0 tl Kp Q n (listed.setIfInBounds j true) (a.put (some dj) (nk b)) ((b, oc) :: L)) : xCx P ops B0 w0 tl Kp Q (n + 1) listed a L := by
  rw [← hdi] at h
  rw [← hdj] at h'
  have hr := oD hr
  refine ⟨fun h0 => (by rw [h0] at hr; cases hr), fun k hk => ?_⟩
  rw [hr] at hk
  have hk' : k = i ∨ k = j := by simpa using hk
  rcases hk' with rfl | rfl
  · exact ⟨oi, hoi, .inl ⟨ob, mk, hai, h⟩⟩
  · exact ⟨oj, hoj, .inl ⟨oc, nk, haj, h'⟩⟩
theorem xBu {L : List (Nat × Obj)} : ∀ p, p ∈ ([] : List (Nat × Obj)) → p ∈ L := fun _ h => nomatch h
theorem xBn {x : Nat × Obj} {l L : List (Nat × Obj)} (h : x ∈ L) (hs : ∀ p, p ∈ l → p ∈ L) : ∀ p, p ∈ x :: l → p ∈ L := fun p hp => by
  rcases List.mem_cons.1 hp with rfl | hp
  · exact h
  · exact hs p hp
theorem news_tail {L : List (Nat × Obj)} {listed : Array Bool} {a : Act} (t : Nat) {o : Oper} (ho : ops[t]? = some o) (hB : seqB ops [t] listed = true) (htl : tl = [t]) (h : tailM P ops (keeps B0 w0 []) Q [o] (Rep B0 w0 L) a) : xCx P ops B0 w0 tl Kp Q 1 listed a L := by
  obtain ⟨v, C', hy, ⟨L', rfl, hL'⟩, hr⟩ := h
  simp only [seqB, Bool.and_eq_true, decide_eq_true_eq] at hB
  refine ⟨fun h0 => (by rw [h0] at hB; cases hB.1), fun i hi => ?_⟩
  rw [hB.1] at hi
  obtain rfl : i = t := by simpa using hi
  subst htl
  exact ⟨o, ho, .inr ⟨v, L', hy, fun ht => absurd (List.mem_singleton.2 rfl) ht, by simpa using hB.2, hr⟩⟩
theorem wp_region_news {id : Nat} {w : World} {l : List Oper} {L : List (Nat × Obj)} {a : Act} (hR : Rep B0 w0 L w) (tl : List Nat) (n : Nat) (hm : P.follows .mixedOrders = true) (hn : l.length = n)
    (h : xCx P l.toArray B0 w0 tl [] Q n (Array.replicate n false) a L) : (Code.region id l.toArray true).wp P Q a w := by
  subst hn
  refine wp_region_any hm ?_
  have := wpAny_of_N _ _ _ _ _ hR.drew h
  simpa using this
theorem wpList_new {rest : List Oper} {o : Oper} {a : Act} {w : World} {L : List (Nat × Obj)} (hR : Rep B0 w0 L w) {ob : Obj} {mk : Nat → Value} (hn : IsNew P o a ob mk) (h : ∀ b w', Rep B0 w0 ((b, ob) :: L) w' → wpList P ops Q rest (a.put o.dst (mk b)) w') : wpList P ops Q (o :: rest) a w :=
  wpList_plain hn.guard fun _ hK => by
    unfold Oper.wp
    rw [hn.run]
    exact hK _ _ (h _ _ (hR.alloc _))
theorem isNew_slice {o : Oper} {a : Act} {ty el : TypeId} {n : Nat} {parts : Array (Nat × Operand)} (hg : o.guard = none) (hop : o.op = .buildSlice ty n parts) {l : List Value} {mk : Nat → Value} (hrun : ∀ (w : World), (Instr.buildSlice ty n (parts.map fun p => (p.1, a.eval p.2))).run P w = .ok (mk w.heap.size) (w.alloc (.cells l.toArray el))) : IsNew P o a (.cells l.toArray el) mk :=
  ⟨hg, fun w => by
    unfold execOp
    simp only [hop, hrun w, Sem.run_bind, Result.andThen_ok, Sem.run_pure]⟩
theorem hd_callK {ts : List Nat} {r acc : List Oper} {o : Oper} {a : Act} {K : List Oper → Act → Prop} {C : World → Prop} (hw : Region.wanted o (yielded ops a.tmps) = true) {f : FuncId} {xs : List Operand} {us : Array TypeId} (hop : o.op = .call { callee := .value (.func f), args := xs.toArray, argTypes := us }) {vs : List Value} {v : Value} (hx' : evL a xs = some vs)
    (hent : ∀ w, (callFunc f vs.toArray).run P w = .ok (.enter f vs.toArray) w) (hq : ∀ L w, (∀ p, p ∈ Kp → p ∈ L) → Rep B0 w0 L w → Calls P f vs.toArray w fun e w' => e = .returned v ∧ Rep B0 w0 L w')
    {a' : Act} (ha : a.put o.dst v = a') (h : xCm P ops (keeps B0 w0 Kp) C K ts r acc a') : xCm P ops (keeps B0 w0 Kp) C K (1 :: ts) (o :: r) acc a :=
  hd_keep hw (fun L w hL hR => by
    have e : (execOp a.eval o).run P w = .ok (.enter f vs.toArray) w := by
      have hx := xDb hx'
      unfold execOp
      simp only [hop, resolve, Deferred.ofValue, Act.eval, Sem.run_bind, Sem.run_pure, Result.andThen_ok, hx]
      have := hent w
      simpa [invoke] using this
    rw [e]
    exact (hq L w hL hR).mono fun e w' ⟨he, hb⟩ => ⟨he, hb⟩) ha h
end
end Go.Proofs.YtgfoeongjhkdmaaGreat
namespace Go.Proofs.YtgfoeongjhkdmaaGreat
open Go.RowKit
theorem loop_whileP {α : Type} {P : Program} {c : Code} {Q : Exit → Act → World → Prop} {l : List Value} {d : List Deferred} {w w0 : World} {B0 : Nat} (mask : List Bool) (upd : α → List Value → List Value) (L : α → List (Nat × Obj)) (μ : α → Nat) (Ok : α → Prop) (x0 : α)
    (h0 : agree mask (upd x0 l) l) (hO : Ok x0) (hR : Rep B0 w0 (L x0) w)
    (hs : ∀ x tm w, Ok x → agree mask (upd x l) tm → Rep B0 w0 (L x) w → ∀ K : Act → World → Prop, Held (∀ y tm' w', Ok y → μ y < μ x → agree mask (upd y l) tm' → Rep B0 w0 (L y) w' → K ⟨tm'.toArray, d⟩ w') → c.wp P (Exit.then K Q) ⟨tm.toArray, d⟩ w) : (Code.loop c).wp P Q ⟨l.toArray, d⟩ w := by
  have key : ∀ n x, μ x ≤ n → Ok x → ∀ tm w, agree mask (upd x l) tm → Rep B0 w0 (L x) w → Code.rounds P c Q (n + 1) ⟨tm.toArray, d⟩ w := by
    intro n
    induction n with
    | zero => intro x hx hO tm w h1 h2; exact hs x tm w hO h1 h2 _ ⟨fun y tm' w' _ hy _ _ => by omega⟩
    | succ n ih =>
      intro x hx hO tm w h1 h2
      exact hs x tm w hO h1 h2 _ ⟨fun y tm' w' hO' hy h1' h2' => ih y (by omega) hO' tm' w' h1' h2'⟩
  exact wp_loop_rounds (μ x0 + 1) (key (μ x0) x0 (Nat.le_refl _) hO l w h0 hR)
end Go.Proofs.YtgfoeongjhkdmaaGreat
