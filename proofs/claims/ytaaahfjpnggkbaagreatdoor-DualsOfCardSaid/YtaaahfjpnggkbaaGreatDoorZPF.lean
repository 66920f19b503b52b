import Derived.Deep.Upon
import Derived.Test.YtaaahfjpnggkbaaGreatDoorZQ
set_option linter.unusedSimpArgs false
set_option linter.unusedVariables false
set_option maxRecDepth 100000
set_option maxHeartbeats 20000000
namespace Go.Proofs.YtaaahfjpnggkbaaGreatDoor
open Go.RowKit
section
end
section
section
variable {q n : Nat} {P Q : Nat → Nat} {x c : Nat}
end
end
section
attribute [local irreducible] Calls Instr.build Instr.buildSlice
section
variable {w w0 : World} {B0 : Nat} {R M : List (Nat × Obj)}
theorem appOne_run {ty : TypeId} {x : GrN} {n : Nat} {f : Nat → Nat} {b v : Nat} (hR : Rep B0 w0 M w) (hp : M.Perm ((b, .cells (nl v).toArray 24) :: (x.bl ++ R))) (hg : GrNOk x n f) (hv : f n = v) (hbig : n ≤ 1000000) :
  ∃ (x' : GrN) (w' : World), (Builtin.append_ #[27, 27] ty #[.slice x.a n x.cap, .slice (some ⟨b, 0, none⟩) 1 1]).run Tryz.prog w = .ok (.slice x'.a (n + 1 : Nat) x'.cap) w' ∧ GrNOk x' (n + 1) f ∧ Rep B0 w0 (x'.bl ++ R) w' := by
 subst hv
 replace hR := hR.permN hp
 obtain ⟨i, z, hi, hz, hzs, hsize, hby⟩ := xFz
 have hnews : ∀ j u, (nl (f n))[j]? = some u → w.cell? ((⟨b, 0, none⟩ : Addr).add j) = some u := fun j u hj => by
  rw [xEe, Nat.zero_add]
  exact hR.cell (.head _) hj
 have hR0 : Rep B0 w0 (x.bl ++ R) w := hR.dropN
 have hm63 : n + 1 ≤ maxLen := by unfold maxLen; omega
 have hmb : (n + 1) * 32 ≤ 140737488355328 := by omega
 rcases hg with ⟨rfl, rfl⟩ | ⟨g, cur, ha, hbl, h1, h2, h3, h4⟩
 ·obtain ⟨v', w', hr, hO, hgr, hiff, hat⟩ := run_append_own_at (P := Tryz.prog) w B0 27 ty 24 i z 4 32 Tryz.underlying27 hi hz hsize hby hzs (by decide) (.slice none 0 0) 0 [] ⟨by simp, .inl ⟨rfl, rfl⟩⟩ ⟨b, 0, none⟩ 1 1 (nl (f 0)) rfl hnews (xHx _) hm63 hmb hR.le
  obtain ⟨hl', ⟨hv, _⟩ | ⟨g', cap', cur', rfl, hB, hh, k2, k3, k4, k5⟩⟩ := hO
  ·exact absurd (hiff.1 hv).2 (by decide)
  ·have hR' := hR0.growN hgr (fun r hr => by cases hr)
   have hgg : g' = w.heap.size := by
    rcases hat with hat | hat
    ·cases hat
    ·exact Option.some.inj hat
   have hR2 := hR'.addN hB hh (fun p hp e => by
    have := hR0.lt hp
    omega)
   refine ⟨⟨some ⟨g', 0, none⟩, cap', [(g', .cells cur'.toList.toArray 24)]⟩, w', hr, .inr ⟨g', cur'.toList, rfl, rfl, k2, k3, by simpa using k4, ?_⟩, ?_⟩
   ·rw [k5]; rfl
   ·simpa using hR2
 ·rw [hbl] at hR0
  have hR1 : Rep B0 w0 ((g, .cells cur.toArray 24) :: R) w := hR0
  rw [ha]
  obtain ⟨v', w', hr, hO, hgr, hiff, hat⟩ := run_append_own_at (P := Tryz.prog) w B0 27 ty 24 i z 4 32 Tryz.underlying27 hi hz hsize hby hzs (by decide) (.slice (some ⟨g, 0, none⟩) n x.cap) n (xBy f n) ⟨by rw [xBf], .inr ⟨g, x.cap, cur.toArray, rfl, (hR1.own _ (.head _)).1, (hR1.own _ (.head _)).2, h1, h2, by simpa using h3, by simpa using h4⟩⟩ ⟨b, 0, none⟩ 1 1 (nl (f n)) rfl hnews (xHx _) hm63 hmb hR.le
  obtain ⟨hl', ⟨hv, _⟩ | ⟨g', cap', cur', rfl, hB, hh, k2, k3, k4, k5⟩⟩ := hO
  ·exact absurd (hiff.1 hv).2 (by decide)
  ·have hR' := hR1.dropN.growN hgr (fun r hr => by
    obtain rfl : g = r := Option.some.inj hr
    exact ⟨(hR1.own _ (.head _)).1, hR1.apartN⟩)
   have hR2 := hR'.addN hB hh (fun p hp e => by
    rcases hat with hat | hat
    ·have hgg : g' = g := Option.some.inj hat
     exact hR1.apartN p hp (e.trans hgg)
    ·have hgg : g' = w.heap.size := Option.some.inj hat
     have := hR1.lt (.tail _ hp)
     omega)
   refine ⟨⟨some ⟨g', 0, none⟩, cap', [(g', .cells cur'.toList.toArray 24)]⟩, w', hr, .inr ⟨g', cur'.toList, rfl, rfl, k2, k3, by simpa using k4, ?_⟩, ?_⟩
   ·rw [k5, xCp]
   ·simpa using hR2
end
theorem pB {α : Type _} (L0 Z : List α) (b c : α) : (c :: b :: (L0 ++ Z)).Perm (b :: (Z ++ (c :: L0))) := (List.Perm.swap b c _).trans ((List.perm_append_comm (l₁ := c :: L0)).cons b)
end
end Go.Proofs.YtaaahfjpnggkbaaGreatDoor
