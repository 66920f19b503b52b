import Derived.Test.YtaaahfjpnggkbaaGreatDoorZR
import Derived.Deep.Cut
import Derived.Test.YtaaahfjpnggkbaaGreatDoorZB
import Derived.Test.YtaaahfjpnggkbaaGreatDoorZJ
set_option linter.unusedSimpArgs false
set_option linter.unusedVariables false
set_option maxRecDepth 100000
set_option maxHeartbeats 20000000
namespace Go.Proofs.YtaaahfjpnggkbaaGreatDoor
open Go.RowKit
section
attribute [local irreducible] Calls Instr.build Instr.buildSlice
end
section
attribute [local irreducible] Calls Instr.build Instr.buildSlice
theorem xBq.ofMem {b : Nat} {o : Obj} : ∀ {L : List (Nat × Obj)}, (b, o) ∈ L → xBq L b o o L
  | [], h => nomatch h
  | p :: L, h => by
    rcases List.mem_cons.1 h with rfl | h
    · exact .inl ⟨rfl, rfl⟩
    · exact .inr ⟨L, xBq.ofMem h, rfl⟩
theorem keepE_zero (e : Int) : keepE e 0 = e := by
 unfold keepE
 split
 ·rename_i h; exact h.symm
 ·rfl
section
variable {p q g h : Nat} {fb : Nat} {e : Int} {B0 : Nat} {w0 w : World} {L L' : List (Nat × Obj)} {a : Option Addr} {n cp : Nat} {f : Nat → Nat}
theorem fplus_ok {x y r : Nat} (h1 : 1 < q) (hq : q < B) (hx : x < q) (hy : y < q) (hr : (x + y) % q = r) (hm : (fb, Obj.cells (pfl p q g h e).toArray 79) ∈ L) (hR : Rep B0 w0 L w) : Calls Tryz.prog 33 #[.pointer (some ⟨fb, 0, none⟩), num x, num y] w fun en w' => en = .returned (num r) ∧ Rep B0 w0 L w' :=
 fplus_any (Nat.lt_trans hx hq) (Nat.lt_trans hy hq) hq (by rw [if_pos ⟨h1, hx, hy⟩]; exact hr) (if_pos ⟨h1, hx, hy⟩) (keepE_zero e) (xBq.ofMem hm) hR
theorem ftimes_ok {x y r : Nat} (h1 : 1 < q) (hq : q < B) (hx : x < q) (hy : y < q) (hr : mulN x y q = r) (hm : (fb, Obj.cells (pfl p q g h e).toArray 79) ∈ L) (hR : Rep B0 w0 L w) : Calls Tryz.prog 34 #[.pointer (some ⟨fb, 0, none⟩), num x, num y] w fun en w' => en = .returned (num r) ∧ Rep B0 w0 L w' :=
 ftimes_any (Nat.lt_trans hx hq) (Nat.lt_trans hy hq) hq (by rw [if_pos ⟨h1, hx, hy⟩]; exact hr) (if_pos ⟨h1, hx, hy⟩) (keepE_zero e) (xBq.ofMem hm) hR
end
end
end Go.Proofs.YtaaahfjpnggkbaaGreatDoor
