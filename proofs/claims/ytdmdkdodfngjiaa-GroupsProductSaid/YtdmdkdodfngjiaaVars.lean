/- A range over a function whose variables are boxed anew in each round (the assignment makes blocks). No condition; nothing of the program is named here. -/
import Derived.RangeFuncFrom
import Derived.Test.YtdmdkdodfngjiaaOrd
set_option linter.unusedSimpArgs false
set_option linter.unusedVariables false
namespace Go.Proofs.Ytdmdkdodfngjiaa
open Go.RowKit
section
variable {α : Type} {F : Fence} {n : Nat} {P : Program}
/-- What the loop's own two blocks hold: its record, and the round's deferred calls. -/
def loopAt (D : Nat) (r : Loop) (W : World) : Prop := W.heap[D + 1]? = some (.loop r) ∧ W.heap[D]? = some (.deferred (some []))
theorem loopAt.grown {D : Nat} {r : Loop} {A B : World} {row : Option Nat} (h : loopAt D r A) (hg : A.grownBy B row) (hr : ∀ k, row = some k → ∃ o : Obj, A.heap[k]? = some o ∧ o.isWalk = true) : loopAt D r B :=
  ⟨(grownBy_keeps hg hr h.1 rfl).trans h.1, (grownBy_keeps hg hr h.2 rfl).trans h.2⟩
theorem loopAt.keeps {D : Nat} {r : Loop} {A B : World} (h : loopAt D r A) (hk : KeepsOthers A B) : loopAt D r B := ⟨hk.same _ _ h.1 rfl, hk.same _ _ h.2 rfl⟩
theorem loopAt.put {D : Nat} {r r' : Loop} {A : World} (h : loopAt D r A) : loopAt D r' (A.putObj (D + 1) (.loop r')) :=
  ⟨World.putObj_heap_same (Array.getElem?_eq_some_iff.1 h.1).1, (World.putObj_heap_other (by omega)).trans h.2⟩

theorem wpIn_rangeFunc_vars {g : Operand} {ps : Array Tmp} {assign body : Code} {Q : Exit → Act → World → Prop} {a : Act} {w : World}
    (hro : F.round = none) (h1 : 1 ≤ n) {gf : Nat} {lb : Array Value} (hg : a.eval g = .func (.func gf) #[] lb) (hFg : F.fn gf) (eg : ∀ args w, (callFunc gf args).run P w = .ok (.enter gf args) w)
    {encs : α → Array Value} {Kp : World → World → Prop} {S Sp : List α → Prop} {N : Nat} (hseq : SeqStopsK F (n - 1) P gf lb encs Kp S Sp N w)
    (hKt : ∀ {A B C : World}, Kp A B → Kp B C → Kp A C) (hKb : ∀ (W : World) (l : Nat) (o o' : Obj), w.heap.size ≤ l → W.heap[l]? = some o → o.isCells = false → o.isWalk = false → Kp W (W.putObj l o')) (hps : ∀ x, (encs x).size = ps.size)
    (I : List α → World → Prop) (I1 : List α → α → Act → World → Prop) (Ix : Code → List α → World → Prop) (hI : OwnFrom w.heap.size I) (hI1 : ∀ x b, OwnFrom w.heap.size fun pre W => I1 pre x b W) (hIx : ∀ c, OwnFrom w.heap.size (Ix c)) (h0 : I [] w)
    (hvars : ∀ (l : Nat) (pre : List α) (x : α) (W : World) (K : Act → World → Prop), I pre W → pre.length < N → (∀ b W', KeepsOthers W W' → Kp W W' → I1 pre x b W' → K b W') →
      assign.wpIn (F.inRound l) (n - 1 - 1) P (Exit.then K (fun _ _ _ => False)) { tmps := (ps.zip (encs x)).foldl (fun t (p, v) => t.setIfInBounds p v) a.tmps, defers := [] } W)
    (hbody : ∀ (l : Nat) (pre : List α) (x : α) (b : Act) (W : World), I1 pre x b W → body.wpIn (F.inRound l) (n - 1 - 1) P (ownPostK Kp I Ix (pre ++ [x]) W) b W)
    (hdone : ∀ (D : Nat) (xs : List α) (W : World), w.heap.size ≤ D → S xs → I xs W → W.heap[D]? = some (.deferred (some [])) → Q .normal { a with defers := { target := .collected D, args := #[] } :: a.defers } W)
    (hstop : ∀ (D : Nat) (c : Code) (pre : List α) (W : World), w.heap.size ≤ D → Sp pre → Ix c pre W → W.heap[D]? = some (.deferred (some [])) → c.wpIn F n P Q { a with defers := { target := .collected D, args := #[] } :: a.defers } W) :
    (Code.rangeFunc g ps assign body).wpIn F n P Q a w := by
  refine wpIn_rangeFunc ?_
  intro fn hfn
  rw [hro]
  obtain ⟨D, hD⟩ : ∃ D, w.heap.size = D := ⟨_, rfl⟩
  obtain ⟨st, hst⟩ : ∃ st : LoopState → Option Code → Loop, st = fun s c => { state := s, pending := c, fn, tmps := a.tmps, params := ps, assign, body, defers := D } := ⟨_, rfl⟩
  obtain ⟨W1, hW1⟩ : ∃ W1, (w.alloc (.deferred (some []))).alloc (.loop (st .ready none)) = W1 := ⟨_, rfl⟩
  have hs1 : W1.heap.size = D + 2 := by rw [← hW1]; simp [hD]
  have hL1 : loopAt D (st .ready none) W1 := by
    refine ⟨?_, ?_⟩
    · rw [← hW1, ← hD]
      have := World.alloc_heap_new (w.alloc (.deferred (some []))) (.loop (st .ready none))
      rwa [World.size_alloc] at this
    · rw [← hW1, ← hD]
      exact (Below.heap_alloc _ _ _ (by simp)).trans (World.alloc_heap_new w _)
  have hb1 : Below w.heap.size w W1 := by
    rw [← hW1]
    exact ((Below.refl _ w).alloc (Nat.le_refl _) _).alloc (by simp) _
  have hI0 : I [] W1 := by rw [← hW1]; exact hI.alloc _ (hI.alloc _ h0)
  have down : ∀ {A : World} {row : Option Nat}, (∀ r, row = some r → W1.heap.size ≤ r ∧ ∃ o : Obj, A.heap[r]? = some o ∧ o.isWalk = true) → ∀ r, row = some r → w.heap.size ≤ r ∧ ∃ o : Obj, A.heap[r]? = some o ∧ o.isCells = false := fun hr r e => by
    obtain ⟨h1, o, ho, hw⟩ := hr r e
    exact ⟨by rw [hs1] at h1; omega, o, ho, Obj.not_cells_of_walk hw⟩
  have lD : w.heap.size ≤ D + 1 := by omega
  refine ⟨D + 1, [{ target := .collected D, args := #[] }], W1, { target := .fn (.func gf) lb, args := #[.func (.yield (D + 1)) #[] #[]] }, W1, gf, #[.func (.yield (D + 1)) #[] #[]] ++ lb, W1, ?_, ?_, ?_, ?_, fun _ => h1, ?_⟩
  · rw [← hW1, hst, ← hD]; exact run_enterLoop_outer _ _ _ _ _
  · simp only [resolve, hg]
    simp [go_sem]
  · intro f' hf'
    simp [Target.leads] at hf'
    subst hf'
    exact hFg
  · simp [invoke, go_sem, eg]
  refine (hseq (D + 1) (fun pre W => I pre W ∧ loopAt D (st .ready none) W) (fun pre W => ∃ c, Ix c pre W ∧ loopAt D (st .done (some c)) W) W1 hb1
    (fun s A A' row hs hg' hr => ⟨hI s A A' row hs.1 hg' (down hr), hs.2.grown hg' fun r e => (hr r e).2⟩)
    (fun s A A' row ⟨c, hc, hl⟩ hg' hr => ⟨c, hIx c s A A' row hc hg' (down hr), hl.grown hg' fun r e => (hr r e).2⟩) ?round ⟨hI0, hL1⟩).mono ?behind
  case round =>
    rintro pre x W ⟨hi, hl⟩ hlen
    have hy := run_yield (P := P) (args := encs x) hl.1 (by rw [hst]; exact hps x)
    rw [hst] at hy
    refine ⟨fn, _, assign, body, hy, roundIn_of_wpIn hfn (hvars _ pre x W _ hi hlen fun b W' hk' hkp' hi' => ⟨_, run_beginRound (hl.keeps hk').1 (by rw [hst]), ?_⟩)⟩
    have hl' := hl.keeps hk'
    have hlb : loopAt D { st .ready none with state := .busy } (W'.putObj (D + 1) (.loop { st .ready none with state := .busy })) := hl'.put
    have hkb : Kp W' (W'.putObj (D + 1) (.loop { st .ready none with state := .busy })) := hKb _ _ _ _ lD hl'.1 rfl rfl
    refine wpIn_mono (hbody _ pre x b _ ((hI1 x b).putObj _ hi' lD hl'.1 rfl)) ?_
    have fin : ∀ (jump : Option Code) (W3 : World), KeepsOthers (W'.putObj (D + 1) (.loop { st .ready none with state := .busy })) W3 →
        (Instr.endRound (D + 1) jump).run P W3 = .ok (.bool jump.isNone) (W3.putObj (D + 1) (.loop (st (if jump.isNone then .ready else .done) jump))) ∧ loopAt D { st .ready none with state := .busy } W3 ∧
        loopAt D (st (if jump.isNone then .ready else .done) jump) (W3.putObj (D + 1) (.loop (st (if jump.isNone then .ready else .done) jump))) := fun jump W3 hk3 => by
      have hl3 := hlb.keeps hk3
      have e := run_endRound (P := P) jump hl3.1
      refine ⟨?_, hl3, hl3.put⟩
      rw [hst] at e ⊢
      exact e
    rintro e a3 W3 hp
    have leave : ∀ c : Code, KeepsOthers (W'.putObj (D + 1) (.loop { st .ready none with state := .busy })) W3 ∧ Ix c (pre ++ [x]) W3 → ∃ v W4, (Instr.endRound (D + 1) (some c)).run P W3 = .ok v W4 ∧ (v = .bool false ∧ ∃ c, Ix c (pre ++ [x]) W4 ∧ loopAt D (st .done (some c)) W4) := fun c ⟨hk3, hi3⟩ => by
      obtain ⟨hr, hl3, hl4⟩ := fin (some c) W3 hk3
      exact ⟨_, _, hr, rfl, c, (hIx c).putObj _ hi3 lD hl3.1 rfl, hl4⟩
    cases e with
    | normal =>
      obtain ⟨hk3, hkp3, hi3⟩ := hp
      obtain ⟨hr, hl3, hl4⟩ := fin none W3 hk3
      exact ⟨_, _, hr, .inl ⟨rfl, ⟨hI.putObj _ hi3 lD hl3.1 rfl, hl4⟩, hKt (hKt (hKt hkp' hkb) hkp3) (hKb _ _ _ _ lD hl3.1 rfl rfl)⟩⟩
    | ret =>
      obtain ⟨v, W4, hr, rfl, h4⟩ := leave .ret hp
      exact ⟨_, _, hr, .inr ⟨rfl, h4⟩⟩
    | exit id =>
      obtain ⟨v, W4, hr, rfl, h4⟩ := leave (.exit id) hp
      exact ⟨_, _, hr, .inr ⟨rfl, h4⟩⟩
    | goto t =>
      obtain ⟨v, W4, hr, rfl, h4⟩ := leave (.goto t) hp
      exact ⟨_, _, hr, .inr ⟨rfl, h4⟩⟩
    | panic ch => exact hp.elim
    | outgrown => exact hp.elim
  case behind =>
    rintro e W2 ⟨⟨v, rfl⟩, (⟨xs, hS, hi, hl⟩ | ⟨pre, hSp, c, hi, hl⟩)⟩
    · have e := run_endLoop (P := P) hl.1 (by rw [hst]; simp)
      rw [hst] at e
      exact ⟨none, _, e, hdone _ xs _ (by omega) hS (hI.putObj _ hi lD hl.1 rfl) ((World.putObj_heap_other (by omega)).trans hl.2)⟩
    · have e := run_endLoop (P := P) hl.1 (by rw [hst]; simp)
      rw [hst] at e
      exact ⟨some c, _, e, hstop _ c pre _ (by omega) hSp ((hIx c).putObj _ hi lD hl.1 rfl) ((World.putObj_heap_other (by omega)).trans hl.2)⟩
end
end Go.Proofs.Ytdmdkdodfngjiaa
