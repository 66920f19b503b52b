/- A loop's end, told up to some slots; facts that the walk does not see. -/
import Derived.Test.YtdmdkdodfngjiaaOrd
set_option linter.unusedSimpArgs false
set_option linter.unusedVariables false
namespace Go.Proofs.Ytdmdkdodfngjiaa
open Go.RowKit

/-- A fact that the walk does not see. -/
structure Held (p : Prop) : Prop where
  out : p

/-! ### A loop's end, told up to some slots -/
/-- Two lists agree but where the mask says so. -/
def agree : List Bool → List Value → List Value → Prop
  | true :: m, _ :: b, _ :: t => agree m b t
  | false :: m, y :: b, x :: t => x = y ∧ agree m b t
  | [], [], [] => True
  | _, _, _ => False
theorem agree_true {m y b l} (h : agree (true :: m) (y :: b) l) : ∃ x t, l = x :: t ∧ agree m b t := by
  cases l with
  | nil => exact h.elim
  | cons x t => exact ⟨x, t, rfl, h⟩
theorem agree_false {m y b l} (h : agree (false :: m) (y :: b) l) : ∃ t, l = y :: t ∧ agree m b t := by
  cases l with
  | nil => exact h.elim
  | cons x t => exact ⟨t, by rw [h.1], h.2⟩
theorem agree_nil {l} (h : agree [] [] l) : l = [] := by
  cases l with
  | nil => rfl
  | cons x t => exact h.elim
def strip : List Bool → List Value → List Value
  | true :: m, _ :: b => undef :: strip m b
  | false :: m, y :: b => y :: strip m b
  | _, _ => []
theorem agree_of : ∀ {m b t}, b.length = m.length → t.length = m.length → strip m t = strip m b → agree m b t
  | [], [], [], _, _, _ => trivial
  | true :: m, _ :: _, _ :: _, h1, h2, h => agree_of (m := m) (Nat.succ.inj h1) (Nat.succ.inj h2) (List.cons.inj h).2
  | false :: m, _ :: _, _ :: _, h1, h2, h => ⟨(List.cons.inj h).1, agree_of (m := m) (Nat.succ.inj h1) (Nat.succ.inj h2) (List.cons.inj h).2⟩
theorem agree_refl {m b} (h : b.length = m.length) : agree m b b := agree_of h h rfl
theorem loop_cut {P : Program} {c : Code} {Q : Exit → Act → World → Prop} {l : List Value} {d : List Deferred} {w : World} (mask : List Bool) (i : Nat) (v : Value) (E : Exit)
    (h1 : ∀ Q' : Exit → Act → World → Prop, Held (∀ tm, agree mask (l.set i v) tm → Q' E ⟨tm.toArray, d⟩ w) → (Code.loop c).wp P Q' ⟨l.toArray, d⟩ w)
    (h2 : ∀ tm, agree mask (l.set i v) tm → Q E ⟨tm.toArray, d⟩ w) : (Code.loop c).wp P Q ⟨l.toArray, d⟩ w := h1 Q ⟨h2⟩
/-- A loop of n rounds over memory of its own, told up to some slots. -/
theorem loop_rep {P : Program} {c : Code} {Q : Exit → Act → World → Prop} {l : List Value} {d : List Deferred} {w w0 : World} {B0 : Nat} (mask : List Bool) (upd : Nat → List Value → List Value) (L : Nat → List (Nat × Obj)) (n : Nat)
    (h0 : agree mask (upd n l) l) (hR : Rep B0 w0 (L n) w)
    (hs : ∀ j tm w, j < n → agree mask (upd (j + 1) l) tm → Rep B0 w0 (L (j + 1)) w → ∀ K : Act → World → Prop, Held (∀ tm' w', agree mask (upd j l) tm' → Rep B0 w0 (L j) w' → K ⟨tm'.toArray, d⟩ w') → c.wp P (Exit.then K Q) ⟨tm.toArray, d⟩ w)
    (he : ∀ tm w, agree mask (upd 0 l) tm → Rep B0 w0 (L 0) w → ∀ K : Act → World → Prop, c.wp P (Exit.then K Q) ⟨tm.toArray, d⟩ w) : (Code.loop c).wp P Q ⟨l.toArray, d⟩ w := by
  have key : ∀ j, j ≤ n → ∀ tm w, agree mask (upd j l) tm → Rep B0 w0 (L j) w → Code.rounds P c Q (j + 1) ⟨tm.toArray, d⟩ w := by
    intro j
    induction j with
    | zero => intro _ tm w h1 h2; exact he tm w h1 h2 _
    | succ j ih =>
      intro hj tm w h1 h2
      exact hs j tm w hj h1 h2 _ ⟨fun tm' w' h1' h2' => ih (by omega) tm' w' h1' h2'⟩
  exact wp_loop_rounds (n + 1) (key n (Nat.le_refl n) l w h0 hR)
end Go.Proofs.Ytdmdkdodfngjiaa
