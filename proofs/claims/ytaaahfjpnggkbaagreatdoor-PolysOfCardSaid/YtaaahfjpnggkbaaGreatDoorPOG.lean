/- Weights of what lies in a list. -/
import Derived.SizedLaws
import Derived.Test.YtaaahfjpnggkbaaGreatDoorPA
import Derived.Test.YtaaahfjpnggkbaaGreatDoorPZ
set_option linter.unusedVariables false
set_option linter.unusedSimpArgs false
namespace Go.Proofs.YtaaahfjpnggkbaaGreatDoor
open Go.RowKit Go.ChangeShapes
end Go.Proofs.YtaaahfjpnggkbaaGreatDoor
namespace Go.Proofs.YtaaahfjpnggkbaaGreatDoor
open Go.RowKit Go.ChangeShapes
theorem list4G {α : Type} (l : List α) (h : l.length = 4) : ∃ a b c d, l = [a, b, c, d] := by
  match l, h with
  | [a, b, c, d], _ => exact ⟨a, b, c, d, rfl⟩
theorem bytes_numG : Tryz.prog.bytesOf 24 = 32 := by kernel_rfl
set_option maxRecDepth 100000 in
theorem nums_len {H : Type} {enc : TypeId × Value → H} {W : World} {base fuel : Nat} {sp : Nat → Bool} {held : Bool} {a : Option Addr} {n cap : Nat} {y : DataW H × List MemPlace} (hsz : ∀ m ∈ y.1.weights Tryz.prog 27, m ≤ reachBytes) (hf : DataW.trod enc Tryz.prog W base sp held fuel 27 [.slice a n cap] = some y) : n ≤ 4398046511104 := by
  rcases DataW.trod_slice Tryz.underlying27 hf with ⟨h1, _⟩ | ⟨a', len, cap', elems, rest, q, _, h1, hy, _, hlc, hcm, hlen, hel, _, _⟩
  · have := (List.cons.inj h1).1
    injection this with _ e _
    omega
  · have h2 := (List.cons.inj h1).1
    injection h2 with _ e _
    rw [hy] at hsz
    simp only [DataW.weights, Tryz.underlying27, bytes_numG, List.length_map, hlen] at hsz
    have := hsz _ (.head _)
    unfold reachBytes at this
    omega
theorem cells_given10 : Tryz.prog.cellsOf 29 = 7 := by kernel_rfl
set_option maxRecDepth 100000 in
theorem open_given10 {H : Type} {enc : TypeId × Value → H} {W : World} {base b0 : Nat} {rc : Reach} {sp : Nat → Bool} {held : Bool} {v : Value} {d : DataW H} {ps : List MemPlace} {ts : List TypeId} {ds : List (DataW H)} {j : Nat}
    (hsz : (DataW.weightsEach Tryz.prog ts ds).all (· ≤ reachBytes) = true) (ht : ts[j]? = some 29) (hdj : ds[j]? = some d) (hval : Value.okWide Tryz.prog W rc b0 29 v) (hd : DataW.Trod enc Tryz.prog W base sp held 29 v d ps) :
    ∃ a n ca f b m cb g c k cc h x, v = .agg #[.slice a n ca, .slice b m cb, .slice c k cc, .int .u64 (wd x 0), .int .u64 (wd x 1), .int .u64 (wd x 2), .int .u64 (wd x 3)] ∧ NAt W.heap.size W [] a n ca f ∧ NAt W.heap.size W [] b m cb g ∧ NAt W.heap.size W [] c k cc h ∧ x < B ∧ n ≤ 4398046511104 ∧ m ≤ 4398046511104 ∧ k ≤ 4398046511104 := by
  obtain ⟨cs, rfl, hcs, _⟩ : ∃ cs, v = .agg cs ∧ cs.size = Tryz.prog.cellsOf 29 ∧ Row.okWide Tryz.prog W rc b0 29 cs := by
    simpa [Value.okWide, Tryz.underlying29] using hval
  rw [cells_given10] at hcs
  obtain ⟨l⟩ := cs
  have hcs : l.length = 7 := hcs
  have hwt : ∀ m ∈ d.weights Tryz.prog 29, m ≤ reachBytes := fun m hm => oD (List.all_eq_true.1 hsz _ (DataW.weights_mem_each ht hdj _ hm))
  obtain ⟨fuel, hf⟩ := hd
  have hf : DataW.trod enc Tryz.prog W base sp held fuel 29 l = some (d, ps) := hf
  obtain ⟨xs, m0, _, hx, _, hn, hi⟩ := DataW.trod_struct Tryz.underlying29 hf
  obtain ⟨x0, x1, x2, x3, rfl⟩ := list4G xs hn
  have h0 : DataW.trod enc Tryz.prog W base sp held m0 27 ((l.drop 0).take (Tryz.prog.cellsOf 27)) = some x0 := hi 0 _ rfl
  have h1 : DataW.trod enc Tryz.prog W base sp held m0 27 ((l.drop 1).take (Tryz.prog.cellsOf 27)) = some x1 := hi 1 _ rfl
  have h2 : DataW.trod enc Tryz.prog W base sp held m0 27 ((l.drop 2).take (Tryz.prog.cellsOf 27)) = some x2 := hi 2 _ rfl
  have h3 : DataW.trod enc Tryz.prog W base sp held m0 24 ((l.drop 3).take (Tryz.prog.cellsOf 24)) = some x3 := hi 3 _ rfl
  rw [cells_nums] at h0 h1 h2
  rw [cells_numR] at h3
  have hwj : ∀ (j : Nat) (x : DataW H × List MemPlace), [x0, x1, x2, x3][j]? = some x → j < 3 → ∀ m ∈ x.1.weights Tryz.prog 27, m ≤ reachBytes := fun j x hj hj3 m hm => hwt m (by
    rw [(Prod.mk.inj hx).1]
    simp only [DataW.weights, Tryz.underlying29]
    match j, hj3 with
    | 0, _ => obtain rfl := Option.some.inj hj; exact DataW.weights_mem_each (j := 0) rfl rfl _ hm
    | 1, _ => obtain rfl := Option.some.inj hj; exact DataW.weights_mem_each (j := 1) rfl rfl _ hm
    | 2, _ => obtain rfl := Option.some.inj hj; exact DataW.weights_mem_each (j := 2) rfl rfl _ hm)
  match l, hcs with
  | [u0, u1, u2, u3, u4, u5, u6], _ =>
    obtain ⟨a, n, ca, f, e0, s0⟩ := trod_nums h0
    obtain ⟨b, m, cb, g, e1, s1⟩ := trod_nums h1
    obtain ⟨c, k, cc, h, e2, s2⟩ := trod_nums h2
    obtain ⟨x, lx, ex, _⟩ := trod_numG (by simp) h3
    obtain rfl := (List.cons.inj (show [u0] = _ from e0)).1
    obtain rfl := (List.cons.inj (show [u1] = _ from e1)).1
    obtain rfl := (List.cons.inj (show [u2] = _ from e2)).1
    have ex' : [u3, u4, u5, u6] = [.int .u64 (wd x 0), .int .u64 (wd x 1), .int .u64 (wd x 2), .int .u64 (wd x 3)] := ex
    simp only [List.cons.injEq, and_true] at ex'
    obtain ⟨rfl, rfl, rfl, rfl⟩ := ex'
    exact ⟨a, n, ca, f, b, m, cb, g, c, k, cc, h, x, rfl, s0, s1, s2, lx, nums_len (hwj 0 _ rfl (by decide)) h0, nums_len (hwj 1 _ rfl (by decide)) h1, nums_len (hwj 2 _ rfl (by decide)) h2⟩
end Go.Proofs.YtaaahfjpnggkbaaGreatDoor
