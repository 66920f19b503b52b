/- append of a whole slice of long numbers to nil. -/
import Derived.Deep.Upon
import Derived.Test.YtgfoeongjhkdmaaUQ
set_option linter.unusedVariables false
set_option linter.unusedSimpArgs false
namespace Go.Proofs.Ytgfoeongjhkdmaa
open Go.RowKit
theorem rowsN_cells (f : Nat → Nat) : ∀ n, ∀ u ∈ xCg f n, u.oneCell' = true
  | 0, u, hu => by unfold xCg at hu; simp at hu
  | n + 1, u, hu => by
    rw [xCw] at hu
    rcases List.mem_append.1 hu with hu | hu
    · exact rowsN_cells f n u hu
    · exact nl_cells _ u hu
section
variable {B0 : Nat} {w0 w : World} {R : List (Nat × Obj)} {a : Option Addr} {n cp : Nat} {f : Nat → Nat}
theorem appNil_run {ty : TypeId} (hA : NAt B0 w0 R a n cp f) (hn : n ≤ 1000) (hR : Rep B0 w0 R w) :
    ∃ (x' : GrN) (w' : World), (Builtin.append_ #[27, 27] ty #[.slice none 0 0, .slice a n cp]).run Try.prog w = .ok (.slice x'.a n x'.cap) w' ∧ GrNOk x' n f ∧ Rep B0 w0 (x'.bl ++ R) w' := by
  obtain ⟨i, z, hi, hz, hzs, hsize, hby⟩ := info_numP
  by_cases h0 : n = 0
  · subst h0
    refine ⟨⟨none, 0, []⟩, w, ?_, grN_zero f, hR⟩
    refine run_append_nothing w 27 27 ty 24 i Try.underlying27 hi none 0 0 (Nat.le_refl _) _ ?_
    cases a with
    | none => exact Src.ofNil w Try.underlying27 cp
    | some ad => exact Src.ofSlice w Try.underlying27 ad 0 cp [] (by simp) (fun j u hj => by simp at hj) (fun u hu => by cases hu)
  · obtain ⟨bb, off, rfl, hy⟩ := hA.at' h0
    have hnews : ∀ j u, (xCg f n)[j]? = some u → w.cell? ((⟨bb, off, none⟩ : Addr).add j) = some u := fun j u hj => by
      have hlt : j < n * 4 := by
        have := (List.getElem?_eq_some_iff.1 hj).1
        rwa [xBs] at this
      have ej : j = j / 4 * 4 + j % 4 := by omega
      rw [ej, rowsN_at f n (j / 4) (j % 4) (by omega) (by omega)] at hj
      have := hy w hR (j / 4) (by omega) (j % 4) u hj
      rw [addr_none8, ej, ← Nat.add_assoc]
      exact this
    have hm63 : 0 + n ≤ maxLen := by unfold maxLen; omega
    have hmb : (0 + n) * 32 ≤ 140737488355328 := by omega
    obtain ⟨v', w', hr, hO, hgr, hiff, hat⟩ := run_append_own_at (P := Try.prog) w B0 27 ty 24 i z 4 32 Try.underlying27 hi hz hsize hby hzs (by decide) (.slice none 0 0) 0 [] ⟨by simp, .inl ⟨rfl, rfl⟩⟩ ⟨bb, off, none⟩ n cp (xCg f n) (xBs f n) hnews (rowsN_cells f n) hm63 hmb hR.le
    rw [Nat.zero_add] at hO
    obtain ⟨hl', ⟨hv, _⟩ | ⟨g', cap', cur', rfl, hB, hh, k2, k3, k4, k5⟩⟩ := hO
    · exact absurd (hiff.1 hv).2 h0
    · have hR' := hR.growN hgr (fun r hr => by cases hr)
      have hgg : g' = w.heap.size := by
        rcases hat with hat | hat
        · cases hat
        · exact Option.some.inj hat
      have hR2 := hR'.addN hB hh (fun p hp e => by
        have := hR.lt hp
        omega)
      refine ⟨⟨some ⟨g', 0, none⟩, cap', [(g', .cells cur'.toList.toArray 24)]⟩, w', hr, .inr ⟨g', cur'.toList, rfl, rfl, k2, k3, by simpa using k4, ?_⟩, ?_⟩
      · rw [k5]; rfl
      · simpa using hR2
theorem wpList_appendAllN {ops : Array Oper} {rest : List Oper} {o : Oper} {ac : Act} {Q : Exit → Act → World → Prop} (hR : Rep B0 w0 R w) (hgd : o.guard = none) {s y : Operand} (ho : o.op = .call { callee := .builtin .append, args := #[s, y], argTypes := #[27, 27] })
    (hs : ac.eval s = .slice none 0 0) (hy : ac.eval y = .slice a n cp) (hA : NAt B0 w0 R a n cp f) (hn : n ≤ 1000)
    (h : ∀ (x' : GrN) w', GrNOk x' n f → Rep B0 w0 (x'.bl ++ R) w' → wpList Try.prog ops Q rest (ac.put o.dst (.slice x'.a n x'.cap)) w') : wpList Try.prog ops Q (o :: rest) ac w :=
  wpList_plain hgd fun _ hK => by
    obtain ⟨x', w', hr, hx, hR'⟩ := appNil_run (ty := o.type) hA hn hR
    unfold Oper.wp execOp
    simp only [ho, resolve, invoke, builtin, Sem.run_bind, Sem.run_pure, Result.andThen_ok, List.map_toArray, List.map_cons, List.map_nil, hs, hy, hr]
    exact hK _ _ (h x' w' hx hR')
end
end Go.Proofs.Ytgfoeongjhkdmaa
namespace Go.Proofs.Ytgfoeongjhkdmaa
open Go.RowKit
section
variable {q n : Nat} {P Q : Nat → Nat} {x c : Nat}
end
end Go.Proofs.Ytgfoeongjhkdmaa
namespace Go.Proofs.Ytgfoeongjhkdmaa
open Go.RowKit
attribute [local irreducible] Calls Instr.build Instr.buildSlice
section
variable {w w0 : World} {B0 : Nat} {R M : List (Nat × Obj)}
theorem appOne_run {ty : TypeId} {x : GrN} {n : Nat} {f : Nat → Nat} {b v : Nat} (hR : Rep B0 w0 M w) (hp : M.Perm ((b, .cells (nl v).toArray 24) :: (x.bl ++ R))) (hg : GrNOk x n f) (hv : f n = v) (hbig : n ≤ 1000000) :
    ∃ (x' : GrN) (w' : World), (Builtin.append_ #[27, 27] ty #[.slice x.a n x.cap, .slice (some ⟨b, 0, none⟩) 1 1]).run Try.prog w = .ok (.slice x'.a (n + 1 : Nat) x'.cap) w' ∧ GrNOk x' (n + 1) f ∧ Rep B0 w0 (x'.bl ++ R) w' := by
  subst hv
  replace hR := hR.permN hp
  obtain ⟨i, z, hi, hz, hzs, hsize, hby⟩ := info_numP
  have hnews : ∀ j u, (nl (f n))[j]? = some u → w.cell? ((⟨b, 0, none⟩ : Addr).add j) = some u := fun j u hj => by
    rw [addr_none8, Nat.zero_add]
    exact hR.cell (.head _) hj
  have hR0 : Rep B0 w0 (x.bl ++ R) w := hR.dropN
  have hm63 : n + 1 ≤ maxLen := by unfold maxLen; omega
  have hmb : (n + 1) * 32 ≤ 140737488355328 := by omega
  rcases hg with ⟨rfl, rfl⟩ | ⟨g, cur, ha, hbl, h1, h2, h3, h4⟩
  · obtain ⟨v', w', hr, hO, hgr, hiff, hat⟩ := run_append_own_at (P := Try.prog) w B0 27 ty 24 i z 4 32 Try.underlying27 hi hz hsize hby hzs (by decide) (.slice none 0 0) 0 [] ⟨by simp, .inl ⟨rfl, rfl⟩⟩ ⟨b, 0, none⟩ 1 1 (nl (f 0)) rfl hnews (nl_cells _) hm63 hmb hR.le
    obtain ⟨hl', ⟨hv, _⟩ | ⟨g', cap', cur', rfl, hB, hh, k2, k3, k4, k5⟩⟩ := hO
    · exact absurd (hiff.1 hv).2 (by decide)
    · have hR' := hR0.growN hgr (fun r hr => by cases hr)
      have hgg : g' = w.heap.size := by
        rcases hat with hat | hat
        · cases hat
        · exact Option.some.inj hat
      have hR2 := hR'.addN hB hh (fun p hp e => by
        have := hR0.lt hp
        omega)
      refine ⟨⟨some ⟨g', 0, none⟩, cap', [(g', .cells cur'.toList.toArray 24)]⟩, w', hr, .inr ⟨g', cur'.toList, rfl, rfl, k2, k3, by simpa using k4, ?_⟩, ?_⟩
      · rw [k5]; rfl
      · simpa using hR2
  · rw [hbl] at hR0
    have hR1 : Rep B0 w0 ((g, .cells cur.toArray 24) :: R) w := hR0
    rw [ha]
    obtain ⟨v', w', hr, hO, hgr, hiff, hat⟩ := run_append_own_at (P := Try.prog) w B0 27 ty 24 i z 4 32 Try.underlying27 hi hz hsize hby hzs (by decide) (.slice (some ⟨g, 0, none⟩) n x.cap) n (xCg f n) ⟨by rw [xBs], .inr ⟨g, x.cap, cur.toArray, rfl, (hR1.own _ (.head _)).1, (hR1.own _ (.head _)).2, h1, h2, by simpa using h3, by simpa using h4⟩⟩ ⟨b, 0, none⟩ 1 1 (nl (f n)) rfl hnews (nl_cells _) hm63 hmb hR.le
    obtain ⟨hl', ⟨hv, _⟩ | ⟨g', cap', cur', rfl, hB, hh, k2, k3, k4, k5⟩⟩ := hO
    · exact absurd (hiff.1 hv).2 (by decide)
    · have hR' := hR1.dropN.growN hgr (fun r hr => by
        obtain rfl : g = r := Option.some.inj hr
        exact ⟨(hR1.own _ (.head _)).1, hR1.apartN⟩)
      have hR2 := hR'.addN hB hh (fun p hp e => by
        rcases hat with hat | hat
        · have hgg : g' = g := Option.some.inj hat
          exact hR1.apartN p hp (e.trans hgg)
        · have hgg : g' = w.heap.size := Option.some.inj hat
          have := hR1.lt (.tail _ hp)
          omega)
      refine ⟨⟨some ⟨g', 0, none⟩, cap', [(g', .cells cur'.toList.toArray 24)]⟩, w', hr, .inr ⟨g', cur'.toList, rfl, rfl, k2, k3, by simpa using k4, ?_⟩, ?_⟩
      · rw [k5, xCw]
      · simpa using hR2
end
section
variable {ops : Array Oper} {B0 : Nat} {w0 : World} {Kp : List (Nat × Obj)} {Q : Exit → Act → World → Prop} {L R0 : List (Nat × Obj)}
theorem f_appOne {N : Nat} {listed : Array Bool} {a : Act} {i : Nat} {r : List Nat} {oi : Oper} {di : Tmp} {s y : Operand} {x : GrN} {n b v : Nat} {f : Nat → Nat} (hoi : ops[i]? = some oi) (hdi : oi.dst = some di) (hg : oi.guard = none)
    (hop : oi.op = .call { callee := .builtin .append, args := #[s, y], argTypes := #[27, 27] }) (hs : ev a s = some (.slice x.a n x.cap)) (hy : ev a y = some (.slice (some ⟨b, 0, none⟩) 1 1)) (hp : L.Perm ((b, .cells (nl v).toArray 24) :: (x.bl ++ R0))) (hx : GrNOk x n f) (hv : f n = v) (hbig : n ≤ 1000000) (hk : ∀ p, p ∈ Kp → p ∈ R0)
    (h : ∀ x' : GrN, GrNOk x' (n + 1) f → wpAnyF Try.prog ops B0 w0 Kp Q N (listed.setIfInBounds i true) (a.put (some di) (.slice x'.a (n + 1 : Nat) x'.cap)) (R0 ++ x'.bl))
    (hr : stepsF Try.prog ops B0 w0 Kp Q N listed a L r) : stepsF Try.prog ops B0 w0 Kp Q N listed a L (i :: r) := by
  rw [← hdi] at h
  refine ⟨⟨oi, hoi, fun v M => ∃ x' : GrN, v = .slice x'.a (n + 1 : Nat) x'.cap ∧ GrNOk x' (n + 1) f ∧ M = R0 ++ x'.bl, .inl ⟨wanted_of hg _, fun w hw => ?_⟩, fun v M ⟨x', hv, hx, hM⟩ => ?_⟩, hr⟩
  · obtain ⟨x', w', hrun, hx', hR'⟩ := appOne_run (ty := oi.type) hw hp hx hv hbig
    have hs := xBv hs
    have hy := xBv hy
    unfold execOp
    simp only [hop, resolve, invoke, builtin, Sem.run_bind, Sem.run_pure, Result.andThen_ok, List.map_toArray, List.map_cons, List.map_nil, hs, hy, hrun]
    exact ⟨_, ⟨x', rfl, hx', rfl⟩, hR'.permN List.perm_append_comm⟩
  · subst hv hM
    exact ⟨fun p hp => List.mem_append_left _ (hk p hp), h x' hx⟩
end
theorem pC {α : Type _} (L0 Z : List α) (b : α) : (b :: (L0 ++ Z)).Perm (b :: (Z ++ L0)) := List.perm_append_comm.cons b
end Go.Proofs.Ytgfoeongjhkdmaa
