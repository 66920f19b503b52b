/- A loop told by a state, its own blocks and a measure. -/
import Derived.Test.YtaaahfjpnggkbaaGreatDoorPA
set_option linter.unusedVariables false
set_option linter.unusedSimpArgs false
namespace Go.Proofs.YtaaahfjpnggkbaaGreatDoor
open Go.RowKit
theorem xBm {α : Type} {P : Program} {c : Code} {Q : Exit → Act → World → Prop} {l : List Value} {d : List Deferred} {w w0 : World} {B0 : Nat} (mask : List Bool) (upd : α → List Value → List Value) (L : α → List (Nat × Obj)) (μ : α → Nat) (Ok : α → Prop) (x0 : α)
    (h0 : agree mask (upd x0 l) l) (hO : Ok x0) (hR : Rep B0 w0 (L x0) w)
    (hs : ∀ x tm w, Ok x → agree mask (upd x l) tm → Rep B0 w0 (L x) w → ∀ K : Act → World → Prop, Held (∀ y tm' w', Ok y → μ y < μ x → agree mask (upd y l) tm' → Rep B0 w0 (L y) w' → K ⟨tm'.toArray, d⟩ w') → c.wp P (Exit.then K Q) ⟨tm.toArray, d⟩ w) : (Code.loop c).wp P Q ⟨l.toArray, d⟩ w := by
  have key : ∀ n x, μ x ≤ n → Ok x → ∀ tm w, agree mask (upd x l) tm → Rep B0 w0 (L x) w → Code.rounds P c Q (n + 1) ⟨tm.toArray, d⟩ w := by
    intro n
    induction n with
    | zero => intro x hx hO tm w h1 h2; exact hs x tm w hO h1 h2 _ ⟨fun y tm' w' _ hy _ _ => by omega⟩
    | succ n ih =>
      intro x hx hO tm w h1 h2
      exact hs x tm w hO h1 h2 _ ⟨fun y tm' w' hO' hy h1' h2' => ih y (by omega) hO' tm' w' h1' h2'⟩
  exact wp_loop_rounds (μ x0 + 1) (key (μ x0) x0 (Nat.le_refl _) hO l w h0 hR)
end Go.Proofs.YtaaahfjpnggkbaaGreatDoor
