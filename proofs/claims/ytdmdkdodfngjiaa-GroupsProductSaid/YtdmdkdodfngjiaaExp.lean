/- The contract of the deed of mods.Exp. -/
import Derived.Test.YtdmdkdodfngjiaaPow
set_option linter.unusedSimpArgs false
set_option linter.unusedVariables false
namespace Go.Proofs.Ytdmdkdodfngjiaa
open Go.RowKit
attribute [local irreducible] Calls

section
variable {P : Program} {ops : Array Oper} {B0 : Nat} {w0 : World} {L : List (Nat × Obj)} {ts : List Nat} {r acc : List Oper} {o : Oper} {a : Act} {K : List Oper → Act → Prop} {I : (World → Prop) → Prop} {C : World → Prop}
/-- A call that reads the caller's blocks. -/
theorem hd_callR (hw : Region.wanted o (yielded ops a.tmps) = true) {f : FuncId} {xs : List Operand} {us : Array TypeId} (hop : o.op = .call { callee := .value (.func f), args := xs.toArray, argTypes := us }) {vs : List Value} {v : Value} (hx' : evL a xs = some vs)
    (hent : ∀ w, (callFunc f vs.toArray).run P w = .ok (.enter f vs.toArray) w) (hq : ∀ w, Rep B0 w0 L w → Calls P f vs.toArray w fun e w' => e = .returned v ∧ Rep B0 w0 L w')
    {a' : Act} (ha : a.put o.dst v = a') (h : headM P ops I (Rep B0 w0 L) K ts r acc a') : headM P ops I (Rep B0 w0 L) K (0 :: ts) (o :: r) acc a :=
  hd_step hw (fun w hR => by
    have e : (execOp a.eval o).run P w = .ok (.enter f vs.toArray) w := by
      have hx := evL_eval hx'
      unfold execOp
      simp only [hop, resolve, Deferred.ofValue, Act.eval, Sem.run_bind, Sem.run_pure, Result.andThen_ok, hx]
      have := hent w
      simpa [invoke] using this
    rw [e]
    exact (hq w hR).mono fun e' w' ⟨he, hb⟩ => ⟨he, hb⟩) ha h
theorem hd_makeFunc {m : Nat} (hm : m ≠ 2) (hw : Region.wanted o (yielded ops a.tmps) = true) {f : Fn} {xs ys : List Operand} (hop : o.op = .makeFunc f xs.toArray ys.toArray) {vs us : List Value} (hx' : evL a xs = some vs) (hy' : evL a ys = some us)
    {a' : Act} (ha : a.put o.dst (.func f vs.toArray us.toArray) = a') (h : headM P ops I C K ts r acc a') : headM P ops I C K (m :: ts) (o :: r) acc a :=
  hd_pure hm hw (fun w => by
    have hx := evL_eval hx'
    have hy := evL_eval hy'
    unfold execOp
    simp only [hop, hx, hy]
    rfl) ha h
end

section
variable {B0 : Nat} {w0 w : World} {L : List (Nat × Obj)}
set_option maxRecDepth 100000 in
set_option maxHeartbeats 1000000 in
theorem exp_word {bm : Nat} {m : Nat} (hm : (bm, Obj.cells (nl m).toArray 24) ∈ L) {a b r : Nat} (ha : a < m) (hb : b < m) (hs : m < 18446744073709551616) (hr : mulN a b m = r) (hR : Rep B0 w0 L w) :
    Calls Try.prog 92 #[.int .u64 (a : Int), .int .u64 (b : Int), .pointer (some ⟨bm, 0, none⟩)] w fun e w' => e = .returned (.int .u64 (r : Int)) ∧ Rep B0 w0 L w' := by
  have em : wd m 0 = (m : Int) := by rw [wd_eq]; unfold w64; omega
  have w1 := fun w => word_any a b m ha (by omega) hs w
  rw [← mulN_def, hr, ← em] at w1
  clear hr
  have hl : (nl m)[0]? = some (.int .u64 (wd m 0)) := rfl
  clear em
  go_enter Try.func92, Try.ntmps92
  go_wp2_with (first | (refine' wpList_boxRep hR rfl rfl rfl ?_; clear hR; intro blk w hR) | (refine' wpList_allocRep hR rfl rfl inferInstance ?_; clear hR; intro blk w hR) | (refine' wpList_loadAll hR rfl rfl rfl inferInstance ?hm ?hn ?_; (case hm => first | with_reducible assumption | repeat (first | exact .head _ | with_reducible assumption | apply List.mem_cons_of_mem)); (case hn => first | rfl | (simp; done))) | (refine' wpList_loadRow hR rfl rfl rfl inferInstance ?hm ?hv ?hn ?_; (case hm => first | with_reducible assumption | repeat (first | exact .head _ | with_reducible assumption | apply List.mem_cons_of_mem)); (case hv => first | with_reducible assumption | (simp only [kC, kD, kE, kF]; first | done | rfl)); (case hn => first | rfl | (simp; done))) | (refine' wpList_loadCell hR rfl rfl rfl inferInstance ?hm ?hv ?_; (case hm => first | with_reducible assumption | repeat (first | exact .head _ | with_reducible assumption | apply List.mem_cons_of_mem)); (case hv => first | rfl | with_reducible assumption)) | (refine' wpList_storeAll hR rfl rfl rfl inferInstance rfl ?hs ?zone ?zvn ?hn ?_; (case hs => repeat (first | exact SetAt.head | apply SetAt.tail)); (case zone => first | rfl | with_reducible assumption); (case zvn => first | rfl | (simp; done)); (case hn => first | rfl | (simp; done)); clear hR; intro w hR) | (refine' wpList_storeCell hR rfl rfl rfl inferInstance rfl rfl ?hs ?hn ?hl ?_; (case hs => repeat (first | exact SetAt.head | apply SetAt.tail)); (case hn => first | exact of_decide_eq_true rfl | (show _ < 4; with_reducible assumption) | (simp; first | done | omega)); (case hl => first | with_reducible assumption | (simp only [nl, kA, kB]; first | done | rfl) | rfl); clear hR; intro w hR) | (go_at_call 93; refine (w1 _).mono ?_; rintro e w ⟨rfl, hb⟩; replace hR := hR.call hb; clear hb))
  go_ret
  exact ⟨rfl, hR⟩
end
end Go.Proofs.Ytdmdkdodfngjiaa
