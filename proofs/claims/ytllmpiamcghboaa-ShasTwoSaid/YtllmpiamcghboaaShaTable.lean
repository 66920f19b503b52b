/- The contract of balefireref05.table; append to nothing. -/
import Derived.Test.YtllmpiamcghboaaShaRef
import Derived.Test.YtllmpiamcghboaaShaAlive
set_option linter.unusedSimpArgs false
set_option linter.unusedVariables false
namespace Go.Proofs.Ytllmpiamcghboaa
open Go.RowKit
attribute [local irreducible] Calls

theorem steps_row : u32s 64 stepF = steps.map fun x : Nat => Value.int .u32 (x : Int) := by
  rw [u32s_def]
  have e : stepF = fun i => steps.getD i 0 := funext stepF_def
  rw [e]
  rfl
section
variable {B0 : Nat} {w0 w : World} {L : List (Nat × Obj)}
set_option maxRecDepth 100000 in
set_option maxHeartbeats 4000000 in
theorem table_any (hR : Rep B0 w0 L w) : Calls Try.prog 22 #[] w fun e w' => ∃ b, e = .returned (.slice (some ⟨b, 0, none⟩) 64 64) ∧ Rep B0 w0 ((b, .cells (u32s 64 stepF).toArray 26) :: L) w' := by
  rw [steps_row]
  go_enter Try.func22, Try.ntmps22
  go_wp2_with (first | (refine' wpList_boxRep hR rfl rfl rfl ?_; clear hR; intro blk w hR) | (refine' wpList_allocRep hR rfl rfl ?hT ?_; (case hT => exact inferInstance); clear hR; intro blk w hR) | (refine' wpList_loadAll hR rfl rfl rfl ?hT ?hm ?hn ?_; (case hT => exact inferInstance); (case hm => first | with_reducible assumption | repeat (first | exact List.Mem.head _ | apply List.Mem.tail)); (case hn => first | rfl | (simp; done))) | (refine' wpList_loadRow hR rfl rfl rfl ?hT ?hm ?hv ?hn ?_; (case hT => exact inferInstance); (case hm => first | with_reducible assumption | repeat (first | exact List.Mem.head _ | apply List.Mem.tail)); (case hv => first | with_reducible assumption | (simp only [List.drop_succ_cons, List.drop_zero, List.take_succ_cons, List.take_zero]; first | done | rfl)); (case hn => first | rfl | (simp; done))) | (refine' wpList_loadCell hR rfl rfl rfl ?hT ?hm ?hv ?_; (case hT => exact inferInstance); (case hm => first | with_reducible assumption | repeat (first | exact List.Mem.head _ | apply List.Mem.tail)); (case hv => first | rfl | with_reducible assumption)) | (refine' wpList_storeAll hR rfl rfl rfl ?hT rfl ?hs ?zone ?zvn ?hn ?_; (case hT => exact inferInstance); (case hs => repeat (first | exact SetAt.head | apply SetAt.tail)); (case zone => first | rfl | with_reducible assumption); (case zvn => first | rfl | (simp; done)); (case hn => first | rfl | (simp; done)); clear hR; intro w hR) | (refine' wpList_storeCell hR rfl rfl rfl ?hT rfl rfl ?hs ?hn ?hl ?_; (case hT => exact inferInstance); (case hs => repeat (first | exact SetAt.head | apply SetAt.tail)); (case hn => first | exact of_decide_eq_true rfl | (show _ < 4; with_reducible assumption) | (simp; done) | (simp; omega)); (case hl => first | with_reducible assumption | (simp only [List.set_cons_zero, List.set_cons_succ]; done) | (simp only [List.set_cons_zero, List.set_cons_succ]; rfl) | (simp only [nl, List.set_cons_zero, List.set_cons_succ]; done) | (simp only [nl, List.set_cons_zero, List.set_cons_succ]; rfl) | rfl); clear hR; intro w hR) | fail)
  go_ret
  exact ⟨_, rfl, hR.alloc _⟩
end
section
variable {P : Program} {ops : Array Oper} {rest : List Oper} {o : Oper} {a : Act} {w w0 : World} {Q : Exit → Act → World → Prop} {B0 : Nat} {L : List (Nat × Obj)}
/-- append of something to nothing. -/
theorem wpList_appendNew {E t : TypeId} (hR : Rep B0 w0 L w) (hgd : o.guard = none) {s x : Operand} (ho : o.op = .call { callee := .builtin .append, args := #[s, x], argTypes := #[t, t] })
    {i : TypeInfo} {z : Value} {bytes : Nat} (ht : P.underlying t = some (.slice E)) (hi : P.info? E = some i) (hz : i.zero = some z) (hsize : i.size = 1) (hby : i.bytes = bytes) (hzs : z.cells.size = 1)
    (hs : a.eval s = .slice none 0 0) {ad : Addr} {m c : Nat} (hx : a.eval x = .slice (some ad) m c) {news : List Value} (hl : news.length = m) (hm : 0 < m)
    (hnews : ∀ j u, news[j]? = some u → w.cell? (ad.add j) = some u) (h1 : ∀ u ∈ news, u.oneCell' = true) (h63 : m ≤ maxLen) (hbytes : m * bytes ≤ 140737488355328)
    (h : ∀ g' cap' (cur' : List Value) w', Rep B0 w0 ((g', .cells cur'.toArray E) :: L) w' → m ≤ cap' → cap' ≤ maxLen → cur'.length = cap' → cur'.take m = news → wpList P ops Q rest (a.put o.dst (.slice (some ⟨g', 0, none⟩) m cap')) w') :
    wpList P ops Q (o :: rest) a w := by
  refine wpList_append_own_at (P := P) w hgd s x t ho B0 E i z 1 bytes ht hi hz hsize hby hzs (by decide) _ 0 [] hs (World.ownsRow_nil w B0 E 1) ad m c news hx (by simpa using hl) hnews h1 (by simpa using h63) (by simpa using hbytes) hR.le ?_
  intro v' w' hO hg hiff hat
  simp only [Nat.zero_add, List.nil_append] at hO
  obtain ⟨hl', ⟨hv, h0⟩ | ⟨g', cap', cur', rfl, hB, hh, h2, h3, h4, h5⟩⟩ := hO
  · omega
  · have hR' := hR.grow' hg (fun r hr => by cases hr)
    have hR2 := hR'.add' hB hh (fun p hp e => by
      rcases hat with hat | hat
      · cases hat
      · have hgg : g' = w.heap.size := Option.some.inj hat
        have := hR.lt hp
        omega)
    exact h g' cap' cur'.toList w' (by simpa using hR2) h2 h3 (by simpa using h4) (by simpa using h5)
end
theorem append_none (a : Option Addr) (c : Nat) (ty : TypeId) (w : World) : (Builtin.append_ #[24, 24] ty #[.slice none 0 0, .slice a 0 c]).run Try.prog w = .ok (.slice none 0 0) w := by
  have := Try.underlying24
  obtain ⟨i0, hi, hz0, hz1, hz2⟩ := info_parts info_u8
  cases a <;> simp [Builtin.append_, run_underlying Try.underlying24, Builtin.lenOf, Builtin.firstCells, sizeOf, typeInfo, hi, loadCells, loadCellsFrom]
theorem wpList_appendNone {ops : Array Oper} {rest : List Oper} {o : Oper} {a : Act} {w : World} {Q : Exit → Act → World → Prop} (hgd : o.guard = none) {s x : Operand} (ho : o.op = .call { callee := .builtin .append, args := #[s, x], argTypes := #[24, 24] })
    (hs : a.eval s = .slice none 0 0) {ad : Option Addr} {c : Nat} (hx : a.eval x = .slice ad 0 c) (h : wpList Try.prog ops Q rest (a.put o.dst (.slice none 0 0)) w) : wpList Try.prog ops Q (o :: rest) a w :=
  wpList_plain hgd fun _ hK => by
    unfold Oper.wp execOp
    simp only [ho, resolve, invoke, builtin, Sem.run_bind, Sem.run_pure, Result.andThen_ok, List.map_toArray, List.map_cons, List.map_nil, hs, hx, append_none]
    exact hK _ _ h
/-- A region that ends with a slice of the call's own. -/
theorem cut_buf {P : Program} {c : Code} {Q : Exit → Act → World → Prop} {l : List Value} {d : List Deferred} {w w0 : World} {B0 : Nat} {L : List (Nat × Obj)} (hR : Rep B0 w0 L w) (mask : List Bool) (sl n : Nat) (x : Nat → Nat) (t : TypeId)
    (h1 : ∀ Q' : Act → World → Prop, Held (∀ g cap (cur : List Value) tm w', BufOk n x ⟨n, g, cap, cur⟩ → agree mask (l.set sl (.slice (some ⟨g, 0, none⟩) n cap)) tm → Rep B0 w0 ((g, .cells cur.toArray t) :: L) w' → Q' ⟨tm.toArray, d⟩ w') → c.wp P (Exit.then Q' fun _ _ _ => False) ⟨l.toArray, d⟩ w)
    (h2 : ∀ g cap (cur : List Value) tm w', BufOk n x ⟨n, g, cap, cur⟩ → agree mask (l.set sl (.slice (some ⟨g, 0, none⟩) n cap)) tm → Rep B0 w0 ((g, .cells cur.toArray t) :: L) w' → Q .normal ⟨tm.toArray, d⟩ w') : c.wp P Q ⟨l.toArray, d⟩ w := by
  refine Code.wp_mono (fun e a w' h => ?_) (h1 (fun a w' => Q .normal a w') ⟨h2⟩)
  cases e <;> first | exact h | exact h.elim
end Go.Proofs.Ytllmpiamcghboaa
