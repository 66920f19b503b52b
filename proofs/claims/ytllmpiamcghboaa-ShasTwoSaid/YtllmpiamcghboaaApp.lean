/- append on a slice of the call's own, on the list of blocks; new slices. -/
import Derived.Maps.AppendAt
import Derived.Laws.MakeOwn
import Derived.Test.YtllmpiamcghboaaNews
set_option linter.unusedSimpArgs false
set_option linter.unusedVariables false
namespace Go.Proofs.Ytllmpiamcghboaa
open Go.RowKit
section
variable {P : Program} {ops : Array Oper} {rest : List Oper} {o : Oper} {a : Act} {w w0 : World} {Q : Exit → Act → World → Prop} {B0 : Nat} {L : List (Nat × Obj)}
theorem Rep.grow' {w' : World} {row : Option Nat} (h : Rep B0 w0 L w) (hg : w.grownBy w' row) (hr : ∀ r, row = some r → B0 ≤ r ∧ ∀ p, p ∈ L → p.1 ≠ r) : Rep B0 w0 L w' :=
  ⟨h.below.grown hg h.le (fun k hk => (hr k hk).1), by have := hg.size; have := h.le; omega, fun p hp => ⟨(h.own p hp).1, by
    have hp1 := (h.own p hp).2
    have hlt : p.1 < w.heap.size := (Array.getElem?_eq_some_iff.1 hp1).1
    rw [hg.block p.1 hlt (fun e => (hr p.1 e.symm).2 p hp rfl)]
    exact hp1⟩, h.uniq⟩
theorem Rep.add' (h : Rep B0 w0 L w) {b : Nat} {o : Obj} (hb : B0 ≤ b) (ho : w.heap[b]? = some o) (hn : ∀ p, p ∈ L → p.1 ≠ b) : Rep B0 w0 ((b, o) :: L) w :=
  ⟨h.below, h.le, fun p hp => by
    rcases List.mem_cons.1 hp with rfl | hp
    · exact ⟨hb, ho⟩
    · exact h.own p hp, by
    rw [List.map_cons, List.nodup_cons]
    refine ⟨fun hm => ?_, h.uniq⟩
    obtain ⟨p, hp, e⟩ := List.mem_map.1 hm
    exact hn p hp e⟩
theorem Rep.drop1 {p : Nat × Obj} (h : Rep B0 w0 (p :: L) w) : Rep B0 w0 L w := h.weaken (List.sublist_cons_self _ _)
theorem Rep.apart {p : Nat × Obj} (h : Rep B0 w0 (p :: L) w) : ∀ q, q ∈ L → q.1 ≠ p.1 := fun q hq e => by
  have := h.uniq
  rw [List.map_cons, List.nodup_cons] at this
  exact this.1 (List.mem_map.2 ⟨q, hq, e⟩)
theorem Rep.swap' {p q : Nat × Obj} (h : Rep B0 w0 (p :: q :: L) w) : Rep B0 w0 (q :: p :: L) w :=
  ⟨h.below, h.le, fun r hr => h.own r (by
    rcases List.mem_cons.1 hr with rfl | hr
    · exact .tail _ (.head _)
    · rcases List.mem_cons.1 hr with rfl | hr
      · exact .head _
      · exact .tail _ (.tail _ hr)), by
    have := h.uniq
    simp only [List.map_cons, List.nodup_cons, List.mem_cons, not_or] at this ⊢
    exact ⟨⟨fun e => this.1.1 e.symm, this.2.1⟩, this.1.2, this.2.2⟩⟩

/-- append to a slice of the call's own. -/
theorem wpList_appendRep {g cap n : Nat} {cur : List Value} {E t : TypeId} (hR : Rep B0 w0 ((g, .cells cur.toArray E) :: L) w) (hgd : o.guard = none) {s x : Operand} (ho : o.op = .call { callee := .builtin .append, args := #[s, x], argTypes := #[t, t] })
    {i : TypeInfo} {z : Value} {bytes : Nat} (ht : P.underlying t = some (.slice E)) (hi : P.info? E = some i) (hz : i.zero = some z) (hsize : i.size = 1) (hby : i.bytes = bytes) (hzs : z.cells.size = 1)
    (hs : a.eval s = .slice (some ⟨g, 0, none⟩) n cap) (hn : n ≤ cap) (hc : cap ≤ maxLen) (hcl : cur.length = cap) {ad : Addr} {m c : Nat} (hx : a.eval x = .slice (some ad) m c) {news : List Value} (hl : news.length = m)
    (hnews : ∀ j u, news[j]? = some u → w.cell? (ad.add j) = some u) (h1 : ∀ u ∈ news, u.oneCell' = true) (h63 : n + m ≤ maxLen) (hbytes : (n + m) * bytes ≤ 140737488355328)
    (h : ∀ g' cap' (cur' : List Value) w', Rep B0 w0 ((g', .cells cur'.toArray E) :: L) w' → n + m ≤ cap' → cap' ≤ maxLen → cur'.length = cap' → cur'.take (n + m) = cur.take n ++ news → wpList P ops Q rest (a.put o.dst (.slice (some ⟨g', 0, none⟩) (n + m) cap')) w') :
    wpList P ops Q (o :: rest) a w := by
  have hown : w.ownsRow B0 E 1 (.slice (some ⟨g, 0, none⟩) n cap) n (cur.take n) :=
    ⟨by simp; omega, .inr ⟨g, cap, cur.toArray, rfl, (hR.own _ (.head _)).1, (hR.own _ (.head _)).2, hn, hc, by simp [hcl], by simp⟩⟩
  refine wpList_append_own_at (P := P) w hgd s x t ho B0 E i z 1 bytes ht hi hz hsize hby hzs (by decide) _ n (cur.take n) hs hown ad m c news hx (by simpa using hl) hnews h1 h63 hbytes hR.le ?_
  intro v' w' hO hg hiff hat
  obtain ⟨hl', ⟨hv, _⟩ | ⟨g', cap', cur', rfl, hB, hh, h2, h3, h4, h5⟩⟩ := hO
  · exact absurd (hiff.1 hv).1 (by simp)
  · have hR' := hR.drop1.grow' hg (fun r hr => by
      obtain rfl : g = r := Option.some.inj hr
      exact ⟨(hR.own _ (.head _)).1, hR.apart⟩)
    have hR2 := hR'.add' hB hh (fun p hp e => by
      rcases hat with hat | hat
      · have hgg : g' = g := Option.some.inj hat
        exact hR.apart p hp (e.trans hgg)
      · have hgg : g' = w.heap.size := Option.some.inj hat
        have := hR.lt (.tail _ hp)
        omega)
    refine h g' cap' cur'.toList w' (by simpa using hR2) h2 h3 (by simpa using h4) (by simpa using h5)
/-- append of one more, which lies in a block of its own. -/
theorem wpList_appendOne {b g cap n : Nat} {cur : List Value} {E t : TypeId} {v : Value} (hR : Rep B0 w0 ((b, .cells [v].toArray E) :: (g, .cells cur.toArray E) :: L) w) (hgd : o.guard = none) {s x : Operand} (ho : o.op = .call { callee := .builtin .append, args := #[s, x], argTypes := #[t, t] })
    {i : TypeInfo} {z : Value} {bytes : Nat} (ht : P.underlying t = some (.slice E)) (hi : P.info? E = some i) (hz : i.zero = some z) (hsize : i.size = 1) (hby : i.bytes = bytes) (hzs : z.cells.size = 1)
    (hs : a.eval s = .slice (some ⟨g, 0, none⟩) n cap) (hx : a.eval x = .slice (some ⟨b, 0, none⟩) 1 1) (hn : n ≤ cap) (hc : cap ≤ maxLen) (hcl : cur.length = cap) (h1 : v.oneCell' = true) (h63 : n + 1 ≤ maxLen) (hbytes : (n + 1) * bytes ≤ 140737488355328)
    (h : ∀ g' cap' (cur' : List Value) w', Rep B0 w0 ((g', .cells cur'.toArray E) :: L) w' → n + 1 ≤ cap' → cap' ≤ maxLen → cur'.length = cap' → cur'.take (n + 1) = cur.take n ++ [v] → wpList P ops Q rest (a.put o.dst (.slice (some ⟨g', 0, none⟩) (n + 1) cap')) w') :
    wpList P ops Q (o :: rest) a w := by
  refine wpList_appendRep hR.swap' hgd ho ht hi hz hsize hby hzs hs hn hc hcl hx (news := [v]) rfl (fun j u hj => ?_) (fun u hu => by rw [List.mem_singleton.1 hu]; exact h1) h63 hbytes (fun g' cap' cur' w' hR' h2 h3 h4 h5 => ?_)
  · match j, hj with
    | 0, hj =>
      obtain rfl : v = u := Option.some.inj hj
      have := hR.cell (off := 0) (l := [v]) (.head _) rfl
      simpa [Addr.add] using this
  · exact h g' cap' cur' w' (hR'.weaken ((List.sublist_cons_self _ _).cons_cons _)) h2 h3 h4 h5
/-- A slice of one byte. -/
theorem wpList_oneNew {el ty : TypeId} {x : Operand} {v : Value} (hR : Rep B0 w0 L w) (hg : o.guard = none) (hop : o.op = .buildSlice ty 1 #[(0, x)]) (hx : ev a x = some v) (hrun : ∀ w, (Instr.buildSlice ty 1 #[(0, v)]).run P w = .ok (.slice (some ⟨w.heap.size, 0, none⟩) 1 1) (w.alloc (.cells [v].toArray el)))
    (h : ∀ b w', Rep B0 w0 ((b, .cells [v].toArray el) :: L) w' → wpList P ops Q rest (a.put o.dst (.slice (some ⟨b, 0, none⟩) 1 1)) w') : wpList P ops Q (o :: rest) a w :=
  wpList_plain hg fun _ hK => by
    have hx := ev_eval hx
    unfold Oper.wp execOp
    simp only [hop, List.map_toArray, List.map_cons, List.map_nil, hx, hrun, Sem.run_bind, Result.andThen_ok, Sem.run_pure]
    exact hK _ _ (h _ _ (hR.alloc _))
/-- make of a slice. -/
theorem wpList_makeRep {ty E : TypeId} {x y : Operand} {vx vy : Value} {n c : Nat} {l : List Value} (hR : Rep B0 w0 L w) (hg : o.guard = none) (hop : o.op = .makeSlice ty x y) (hx : ev a x = some vx) (hy : ev a y = some vy)
    (hrun : ∀ w, (Instr.makeSlice ty vx vy).run P w = .ok (.slice (some ⟨w.heap.size, 0, none⟩) n c) (w.alloc (.cells l.toArray E)))
    (h : ∀ b w', Rep B0 w0 ((b, .cells l.toArray E) :: L) w' → wpList P ops Q rest (a.put o.dst (.slice (some ⟨b, 0, none⟩) n c)) w') : wpList P ops Q (o :: rest) a w :=
  wpList_plain hg fun _ hK => by
    have hx := ev_eval hx
    have hy := ev_eval hy
    unfold Oper.wp execOp
    simp only [hop, hx, hy, hrun, Sem.run_bind, Result.andThen_ok, Sem.run_pure]
    exact hK _ _ (h _ _ (hR.alloc _))
end
end Go.Proofs.Ytllmpiamcghboaa
