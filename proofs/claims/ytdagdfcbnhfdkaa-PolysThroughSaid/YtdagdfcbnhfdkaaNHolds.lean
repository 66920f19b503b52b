/- The contract of the closure in primes.Check, and of primes.Check. -/
import Derived.Test.YtdagdfcbnhfdkaaNP
import Derived.Test.YtdagdfcbnhfdkaaNWilson
set_option linter.unusedVariables false
set_option linter.unusedSimpArgs false
namespace Go.Proofs.Ytdagdfcbnhfdkaa
open Go.RowKit
attribute [local irreducible] Calls Instr.build Instr.buildSlice
noncomputable abbrev holdsV (bm bh : Nat) : Value := .func (.func 38) #[] #[.pointer (some ⟨bm, 0, none⟩), .pointer (some ⟨bh, 0, none⟩)]
structure Own7 (B0 : Nat) (w0 : World) (bm bh : Nat) (L0 : List (Nat × Obj)) (Lf : Nat → List (Nat × Obj)) : Prop where
  sub : ∀ m w, Rep B0 w0 (Lf m) w → Rep B0 w0 L0 w
  set : ∀ m m' : Nat, xAu (Lf m) bm (.cells [Value.int .i64 (m : Int)].toArray 3) (.cells [Value.int .i64 (m' : Int)].toArray 3) (Lf m')
  fn : ∀ m, (bh, Obj.cells [holdsV bm bh].toArray 30) ∈ Lf m
theorem Own7.mem {B0 : Nat} {w0 : World} {bm bh : Nat} {L0 : List (Nat × Obj)} {Lf : Nat → List (Nat × Obj)} (h : Own7 B0 w0 bm bh L0 Lf) (m : Nat) : (bm, Obj.cells [Value.int .i64 (m : Int)].toArray 3) ∈ Lf m := (h.set m m).spec.1
theorem Own7.cons {B0 : Nat} {w0 : World} {bm bh : Nat} {L0 : List (Nat × Obj)} {Lf : Nat → List (Nat × Obj)} (h : Own7 B0 w0 bm bh L0 Lf) (p : Nat × Obj) : Own7 B0 w0 bm bh L0 fun m => p :: Lf m :=
  ⟨fun m w hw => h.sub m w hw.drop1, fun m m' => xAu.tail (h.set m m'), fun m => .tail _ (h.fn m)⟩
end Go.Proofs.Ytdagdfcbnhfdkaa
