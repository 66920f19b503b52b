/- The contract of groups.Product. -/
import Derived.Test.YtgfoeongjhkdmaaGreatRU
import Derived.Test.YtgfoeongjhkdmaaGreatRV
import Derived.Test.YtgfoeongjhkdmaaGreatRA
set_option linter.unusedVariables false
set_option linter.unusedSimpArgs false
namespace Go.Proofs.YtgfoeongjhkdmaaGreat
open Go.RowKit
attribute [local go_sem] Oper.semAt_some
attribute [local irreducible] Calls
instance zeroErr : ZeroT Tryz.prog 33 [.int .i64 0] := ⟨.int .i64 0, by kernel_rfl, rfl⟩
theorem pairs_any (pa pn : Option Addr) (len ca len2 cn : Nat) (w : World) :
    Calls Tryz.prog 42 #[.slice pa len ca, .slice pn len2 cn] w fun e w' => e = .returned (.func (.func 78) #[] #[.pointer (some ⟨w.heap.size, 0, none⟩), .pointer (some ⟨w.heap.size + 1, 0, none⟩)]) ∧
      w' = (w.alloc (.cells #[.slice pa len ca] 46)).alloc (.cells #[.slice pn len2 cn] 46) := by
  go_enter Tryz.func42, Tryz.ntmps42
  go_wp2
  go_ret
  exact ⟨by simp, rfl⟩
noncomputable def stepP : Nat → Nat → Pair → Nat := opq fun p r x => mulN r (powN x.1.1 x.1.2 p) p
theorem stepP_def (p r : Nat) (x : Pair) : stepP p r x = mulN r (powN x.1.1 x.1.2 p) p := by unfold stepP; rw [xCe]
noncomputable def prodL (p : Nat) (l : List Pair) : Nat := l.foldl (stepP p) 1
theorem prodL_snoc (p : Nat) (l : List Pair) (x : Pair) : prodL p (l ++ [x]) = stepP p (prodL p l) x := by
  unfold prodL; rw [List.foldl_append]; rfl
theorem prodL_lt {p : Nat} (h : 1 < p) (l : List Pair) : prodL p l < p := by
  rcases List.eq_nil_or_concat l with rfl | ⟨l, x, rfl⟩
  · exact h
  · rw [List.concat_eq_append, prodL_snoc, stepP_def]; exact mul_lt' h _ _
def mayAll (p : Nat) (l : List Pair) : Prop := ∀ x ∈ l, mayG p x.1.1
structure NumsAt (w : World) (pa : Option Addr) (len : Nat) (f : Nat → Nat) : Prop where
  at' : 0 < len → ∃ b o, pa = some ⟨b, o, none⟩ ∧ b < w.heap.size ∧ ∀ j, j < len → liesAt w b (o + j * 4) (f j)
theorem rep_ownP {α : Type} {B0 : Nat} {w0 : World} {L : List α → List (Nat × Obj)} {C : Nat} (hC : B0 ≤ C) (hL : ∀ pre p, p ∈ L pre → p.2.isCells = true) : OwnFrom C (fun pre W => Rep B0 w0 (L pre) W) := fun pre W W' row h hg hr =>
  h.grown hg fun r e => ⟨by have := (hr r e).1; omega, fun p hp ep => by
    obtain ⟨_, o, ho, hf⟩ := hr r e
    have h1 := (h.own p hp).2
    have h2 := hL pre p hp
    rw [ep, ho] at h1
    cases h1
    rw [hf] at h2
    cases h2⟩
theorem liesAt.below {n b i a : Nat} {w W : World} (h : Below n w W) (lb : b < n) (hl : liesAt w b i a) : liesAt W b i a :=
  ⟨(h.cell (p := ⟨b, _, none⟩) lb).trans hl.1, (h.cell (p := ⟨b, _, none⟩) lb).trans hl.2.1, (h.cell (p := ⟨b, _, none⟩) lb).trans hl.2.2.1, (h.cell (p := ⟨b, _, none⟩) lb).trans hl.2.2.2⟩
noncomputable def slotsP (l : List Value) (x : Pair) (c9 c10 : Nat) : List Value := (((l.set 30 (num x.1.1)).set 31 (num x.1.2)).set 9 (.pointer (some ⟨c9, 0, none⟩))).set 10 (.pointer (some ⟨c10, 0, none⟩))
theorem zip_slots (l : List Value) (u v : Value) : ((#[30, 31] : Array Tmp).zip (#[u, v])).foldl (fun t (x : Tmp × Value) => t.setIfInBounds x.1 x.2) l.toArray = ((l.set 30 u).set 31 v).toArray := by simp
def roundPost (W : World) (B0 : Nat) (w0 : World) (L LX : List (Nat × Obj)) (M MX : Prop) : Exit → Act → World → Prop
  | .normal, _, W' => RK W B0 w0 L W' ∧ M
  | .ret, _, W' => RK W B0 w0 LX W' ∧ MX
  | _, _, _ => False
theorem range_pairs {Q : Exit → Act → World → Prop} {B0 : Nat} {w0 : World} {l : List Value} {w : World} {ac bc : Code} (zs : Nat → Pair) (Ba Bn ba bn oa on len ca cn : Nat) (pa pn : Option Addr) (LL : List Pair → List (Nat × Obj)) (M : List Pair → Prop) (LX : List (Nat × Obj)) (MX : List Pair → Prop)
    (hg : (Act.mk l.toArray []).eval (.tmp 29) = .func (.func 78) #[] #[.pointer (some ⟨Ba, 0, none⟩), .pointer (some ⟨Bn, 0, none⟩)])
    (hlen : len ≤ 1000000) (hpa : 0 < len → pa = some ⟨ba, oa, none⟩) (hpn : 0 < len → pn = some ⟨bn, on, none⟩) (hb : ∀ b ∈ [Ba, Bn, ba, bn], b < w.heap.size) (hBa : w.cell? ⟨Ba, 0, none⟩ = some (.slice pa len ca)) (hBn : w.cell? ⟨Bn, 0, none⟩ = some (.slice pn len cn))
    (hca : ∀ j, j < len → liesAt w ba (oa + j * 4) (zs j).1.1) (hcn : ∀ j, j < len → liesAt w bn (on + j * 4) (zs j).1.2)
    (hR : Rep B0 w0 (LL []) w) (hM : M []) (hL : ∀ pre p, p ∈ LL pre → p.2.isCells = true) (hLX : ∀ p, p ∈ LX → p.2.isCells = true)
    (hkeep : ∀ (L1 L2 : List (Nat × Obj)) (pre pre' : List Pair) (W W' : World), Rep B0 w0 (L1 ++ LL pre) W → Rep B0 w0 (L2 ++ LL pre') W' → keepS [Ba, Bn, ba, bn] W W')
    (hvars : ∀ (k : Nat) (pre : List Pair) (x : Pair) (W : World) (K : Act → World → Prop), RK W B0 w0 (LL pre) W → (∀ c9 c10 W', RK W B0 w0 ((c10, .cells (nl x.1.2).toArray 24) :: (c9, .cells (nl x.1.1).toArray 24) :: LL pre) W' → K ⟨(slotsP l x c9 c10).toArray, []⟩ W') →
      ac.wpIn (Fence.wide.inRound k) 3 Tryz.prog (Exit.then K (fun _ _ _ => False)) ⟨((l.set 30 (num x.1.1)).set 31 (num x.1.2)).toArray, []⟩ W)
    (hbody : ∀ (k : Nat) (pre : List Pair) (x : Pair) (c9 c10 : Nat) (W : World), RK W B0 w0 ((c10, .cells (nl x.1.2).toArray 24) :: (c9, .cells (nl x.1.1).toArray 24) :: LL pre) W → M pre →
      bc.wpIn (Fence.wide.inRound k) 3 Tryz.prog (roundPost W B0 w0 (LL (pre ++ [x])) LX (M (pre ++ [x])) (MX (pre ++ [x]))) ⟨(slotsP l x c9 c10).toArray, []⟩ W)
    (hdone : ∀ (D : Nat) (W : World), Rep B0 w0 ((D, .deferred (some [])) :: LL (up zs len)) W → M (up zs len) → Q .normal ⟨l.toArray, [{ target := .collected D, args := #[] }]⟩ W)
    (hstop : ∀ (D m : Nat) (W : World), m ≤ len → Rep B0 w0 ((D, .deferred (some [])) :: LX) W → MX (up zs m) → Q .ret ⟨l.toArray, [{ target := .collected D, args := #[] }]⟩ W) :
    (Code.rangeFunc (.tmp 29) #[30, 31] ac bc).wp Tryz.prog Q ⟨l.toArray, []⟩ w := by
  refine (wpIn_wide (n := 5)).1 ?_
  have own : ∀ (G : List Pair → List (Nat × Obj)) (N : List Pair → Prop), (∀ s p, p ∈ G s → p.2.isCells = true) → OwnFrom w.heap.size (fun s W => Rep B0 w0 (G s) W ∧ N s) := fun G N hG =>
    fun s W W' row h hg hr => ⟨rep_ownP hR.le hG s W W' row h.1 hg hr, h.2⟩
  have notIn : ∀ {L : List (Nat × Obj)} {D : Nat} {W : World}, (∀ p, p ∈ L → p.2.isCells = true) → Rep B0 w0 L W → W.heap[D]? = some (.deferred (some [])) → ∀ p, p ∈ L → p.1 ≠ D := fun hG h hD p hp e => by
    have h1 := (h.own p hp).2
    have h2 := hG p hp
    rw [e, hD] at h1
    rw [← Option.some.inj h1] at h2
    cases h2
  refine wpIn_rangeFunc_vars rfl (by decide) (gf := 78) (lb := #[.pointer (some ⟨Ba, 0, none⟩), .pointer (some ⟨Bn, 0, none⟩)]) hg trivial (fun args w => xBi Tryz.func78 (by kernel_rfl) (by kernel_rfl) args w)
    (pairs_stops Fence.wide 4 trivial rfl (by decide) Ba Bn ba bn oa on len ca cn pa pn zs hlen hpa hpn w hb hBa hBn hca hcn) keepS_t (keepS_b hb) (fun _ => rfl)
    (fun pre W => Rep B0 w0 (LL pre) W ∧ M pre) (fun pre x b W => ∃ c : Nat × Nat, b = ⟨(slotsP l x c.1 c.2).toArray, []⟩ ∧ Rep B0 w0 ((c.2, .cells (nl x.1.2).toArray 24) :: (c.1, .cells (nl x.1.1).toArray 24) :: LL pre) W ∧ M pre) (fun c pre W => Rep B0 w0 LX W ∧ (c = .ret ∧ MX pre))
    (own LL M hL) (fun x b => ?own1) (fun c => own (fun _ => LX) (fun pre => c = .ret ∧ MX pre) (fun _ => hLX)) ⟨hR, hM⟩ ?vars ?body ?done ?stop
  case own1 =>
    rintro pre W W' row ⟨c, hc, h, hm⟩ hg hr
    exact ⟨c, hc, (rep_ownP (L := fun (_ : List Pair) => (c.2, Obj.cells (nl x.1.2).toArray 24) :: (c.1, Obj.cells (nl x.1.1).toArray 24) :: LL pre) hR.le (fun _ p hp => by
      rcases List.mem_cons.1 hp with rfl | hp
      · rfl
      · rcases List.mem_cons.1 hp with rfl | hp
        · rfl
        · exact hL pre p hp)) [] W W' row h hg hr, hm⟩
  case vars =>
    rintro k pre x W K ⟨hw, hm⟩ hl hK
    rw [zip_slots]
    refine hvars k pre x W K ⟨hw, KeepsOthers.refl W⟩ fun c9 c10 W' hw' => ?_
    exact hK _ W' hw'.kept (hkeep [] [_, _] pre pre W W' hw hw'.rep) ⟨(c9, c10), rfl, hw'.rep, hm⟩
  case body =>
    rintro k pre x b W ⟨⟨c9, c10⟩, rfl, hw, hm⟩
    refine wpIn_mono (hbody k pre x c9 c10 W ⟨hw, KeepsOthers.refl W⟩ hm) ?_
    rintro e a' W' hp
    cases e with
    | normal => exact ⟨hp.1.kept, hkeep [_, _] [] pre _ W W' hw hp.1.rep, hp.1.rep, hp.2⟩
    | ret => exact ⟨hp.1.kept, hp.1.rep, rfl, hp.2⟩
    | exit id => exact hp.elim
    | goto t => exact hp.elim
    | panic ch => exact hp.elim
    | outgrown => exact hp.elim
  case done =>
    rintro D ys W hle rfl ⟨hw, hm⟩ hD
    have := hR.le
    exact hdone D W (hw.add (by omega) hD (notIn (hL _) hw hD)) hm
  case stop =>
    rintro D c pre W hle ⟨m, hm, rfl⟩ ⟨hw, rfl, hx⟩ hD
    have := hR.le
    exact wpIn_ret (hstop D m W hm (hw.add (by omega) hD (notIn hLX hw hD)) hx)
section
variable {p q g h : Nat}
theorem NumsAt.seen {ws W : World} {pa : Option Addr} {len : Nat} {f : Nat → Nat} (hA : NumsAt ws pa len f) (Ba : Nat) (h : Below ws.heap.size ws W) : ∃ ba oa, (ba = Ba ∨ ba < ws.heap.size) ∧ (0 < len → pa = some ⟨ba, oa, none⟩) ∧ ∀ j, j < len → liesAt W ba (oa + j * 4) (f j) := by
  rcases Nat.eq_zero_or_pos len with h0 | h0
  · exact ⟨Ba, 0, .inl rfl, fun h' => absurd h' (by omega), fun j hj => absurd hj (by omega)⟩
  · obtain ⟨b, o, e, lb, hl⟩ := hA.at' h0
    exact ⟨b, o, .inr lb, fun _ => e, fun j hj => (hl j hj).below h lb⟩
theorem mayAll_snoc {p : Nat} {l : List Pair} {x : Pair} (h : mayAll p l) (hx : mayG p x.1.1) : mayAll p (l ++ [x]) := fun y hy => by
  rcases List.mem_append.1 hy with hy | hy
  · exact h y hy
  · rw [List.mem_singleton.1 hy]; exact hx
theorem up_mono {zs : Nat → Pair} {m len : Nat} (h : m ≤ len) {x : Pair} (hx : x ∈ up zs m) : x ∈ up zs len := by
  unfold up at *
  obtain ⟨k, hk, rfl⟩ := List.mem_map.1 hx
  exact List.mem_map.2 ⟨k, List.mem_range.2 (by have := List.mem_range.1 hk; omega), rfl⟩
set_option maxRecDepth 100000 in
set_option maxHeartbeats 4000000 in
theorem product_go (hp : p < B) (hq : q < B) (h1 : 1 < p) (pa pn : Option Addr) (len ca cn : Nat) (zs : Nat → Pair) (hlen : len ≤ 1000000) (ws : World) (hA : NumsAt ws pa len fun j => (zs j).1.1) (hN : NumsAt ws pn len fun j => (zs j).1.2) : Calls Tryz.prog 21 #[grp p q g h, .slice pa len ca, .slice pn len cn] ws fun e' w' =>
    ((mayAll p (up zs len) ∧ e' = .returned (.tuple #[num (prodL p (up zs len)), .int .i64 0])) ∨ (¬ mayAll p (up zs len) ∧ e' = .returned (.tuple #[num 0, .int .i64 1]))) ∧ Below ws.heap.size ws w' := by
  have tp := gl_p p q g h
  obtain ⟨n1, hn1⟩ : ∃ n, n = 1 := ⟨_, rfl⟩
  have o1 : ∀ w, Calls Tryz.prog 39 #[.int .u64 1] w fun e w' => e = .returned (num n1) ∧ Below w.heap.size w w' := fun w => by
    rw [hn1]; exact of_any 1 (by decide) w
  have L1 : n1 < B := lt_B (by omega)
  have c1 := cmp_lit hp L1 rfl
  have k1 := cmpN_le p n1
  have j1 : ¬ cmpN p n1 ≤ 0 := fun h => by have := k1.mp h; omega
  generalize cmpN p n1 = x1 at *
  clear k1 L1
  replace hA := Held.mk hA
  replace hN := Held.mk hN
  have ep : prodL p [] = n1 := by rw [hn1]; rfl
  replace ep := Held.mk ep
  clear hn1
  have hR := Rep.init ws
  refine (callsIn_wide (n := 5)).1 ?_
  refine callsIn_of_wp_marks Tryz.func21 rfl trivial ?_ rfl
  simp only [Tryz.ntmps21, List.size_toArray, List.length_cons, List.length_nil, Nat.reduceAdd, Nat.reduceSub, Array.replicate_succ, Array.replicate_zero, List.push_toArray, List.append_toArray, List.nil_append, List.cons_append]
  refine wpIn_wide.2 ?_
  go_wp2_with (first | (refine' xAb hR rfl rfl rfl ?_; clear hR; intro blk w hR) | (refine' xAa hR rfl rfl inferInstance ?_; clear hR; intro blk w hR) | (refine' aAq hR rfl rfl rfl inferInstance ?_) | (refine' aBq hR rfl rfl rfl inferInstance ?_) | (refine' aCq hR rfl rfl rfl inferInstance ?_) | (refine' aDq hR rfl rfl rfl inferInstance rfl ?_; clear hR; intro w hR) | (refine' aEq hR rfl rfl rfl inferInstance rfl rfl ?_; clear hR; intro w hR) | (refine' xAy hR rfl rfl rfl inferInstance ?hm ?hn ?_; (case hm => first | with_reducible assumption | repeat (first | exact .head _ | apply mT)); (case hn => first | rfl | simp)) | (refine' xAt hR rfl rfl rfl inferInstance ?hm ?hv ?_; (case hm => first | with_reducible assumption | repeat (first | exact .head _ | apply mT)); (case hv => first | rfl | with_reducible assumption)) | (go_at_call 39; refine (o1 _).mono ?_; rintro e w ⟨rfl, hb⟩; replace hR := hR.call hb; clear hb) | (go_at_call 41; refine (c1 _).mono ?_; rintro e w ⟨rfl, hb⟩; replace hR := hR.call hb; clear hb) | (go_at_call 42; refine (pairs_any _ _ _ _ _ _ _).mono ?_; rintro e w1 ⟨rfl, rfl⟩; have hBox := (hR.alloc (.cells (List.toArray [Value.slice pa len ca]) 46)).alloc (.cells (List.toArray [Value.slice pn len cn]) 46); clear hR))
  clear o1 c1 j1
  (first | (rename_i b7; change Nat at b7) | (rename_i b7 _; change Nat at b7) | (rename_i b7 _ _; change Nat at b7) | (rename_i b7 _ _ _; change Nat at b7) | (rename_i b7 _ _ _ _; change Nat at b7) | (rename_i b7 _ _ _ _ _; change Nat at b7) | (rename_i b7 _ _ _ _ _ _; change Nat at b7) | (rename_i b7 _ _ _ _ _ _ _; change Nat at b7) | (rename_i b7 _ _ _ _ _ _ _ _; change Nat at b7) | (rename_i b7 _ _ _ _ _ _ _ _ _; change Nat at b7) | (rename_i b7 _ _ _ _ _ _ _ _ _ _; change Nat at b7) | (rename_i b7 _ _ _ _ _ _ _ _ _ _ _; change Nat at b7) | (rename_i b7 _ _ _ _ _ _ _ _ _ _ _ _; change Nat at b7) | (rename_i b7 _ _ _ _ _ _ _ _ _ _ _ _ _; change Nat at b7) | (rename_i b7 _ _ _ _ _ _ _ _ _ _ _ _ _ _; change Nat at b7) | (rename_i b7 _ _ _ _ _ _ _ _ _ _ _ _ _ _ _; change Nat at b7) | (rename_i b7 _ _ _ _ _ _ _ _ _ _ _ _ _ _ _ _; change Nat at b7) | (rename_i b7 _ _ _ _ _ _ _ _ _ _ _ _ _ _ _ _ _; change Nat at b7) | (rename_i b7 _ _ _ _ _ _ _ _ _ _ _ _ _ _ _ _ _ _; change Nat at b7) | (rename_i b7 _ _ _ _ _ _ _ _ _ _ _ _ _ _ _ _ _ _ _; change Nat at b7) | (rename_i b7 _ _ _ _ _ _ _ _ _ _ _ _ _ _ _ _ _ _ _ _; change Nat at b7) | (rename_i b7 _ _ _ _ _ _ _ _ _ _ _ _ _ _ _ _ _ _ _ _ _; change Nat at b7) | (rename_i b7 _ _ _ _ _ _ _ _ _ _ _ _ _ _ _ _ _ _ _ _ _ _; change Nat at b7) | (rename_i b7 _ _ _ _ _ _ _ _ _ _ _ _ _ _ _ _ _ _ _ _ _ _ _; change Nat at b7) | (rename_i b7 _ _ _ _ _ _ _ _ _ _ _ _ _ _ _ _ _ _ _ _ _ _ _ _; change Nat at b7) | (rename_i b7 _ _ _ _ _ _ _ _ _ _ _ _ _ _ _ _ _ _ _ _ _ _ _ _ _; change Nat at b7) | (rename_i b7 _ _ _ _ _ _ _ _ _ _ _ _ _ _ _ _ _ _ _ _ _ _ _ _ _ _; change Nat at b7) | (rename_i b7 _ _ _ _ _ _ _ _ _ _ _ _ _ _ _ _ _ _ _ _ _ _ _ _ _ _ _; change Nat at b7) | (rename_i b7 _ _ _ _ _ _ _ _ _ _ _ _ _ _ _ _ _ _ _ _ _ _ _ _ _ _ _ _; change Nat at b7) | (rename_i b7 _ _ _ _ _ _ _ _ _ _ _ _ _ _ _ _ _ _ _ _ _ _ _ _ _ _ _ _ _; change Nat at b7))
  (first | (rename_i b6; change Nat at b6) | (rename_i b6 _; change Nat at b6) | (rename_i b6 _ _; change Nat at b6) | (rename_i b6 _ _ _; change Nat at b6) | (rename_i b6 _ _ _ _; change Nat at b6) | (rename_i b6 _ _ _ _ _; change Nat at b6) | (rename_i b6 _ _ _ _ _ _; change Nat at b6) | (rename_i b6 _ _ _ _ _ _ _; change Nat at b6) | (rename_i b6 _ _ _ _ _ _ _ _; change Nat at b6) | (rename_i b6 _ _ _ _ _ _ _ _ _; change Nat at b6) | (rename_i b6 _ _ _ _ _ _ _ _ _ _; change Nat at b6) | (rename_i b6 _ _ _ _ _ _ _ _ _ _ _; change Nat at b6) | (rename_i b6 _ _ _ _ _ _ _ _ _ _ _ _; change Nat at b6) | (rename_i b6 _ _ _ _ _ _ _ _ _ _ _ _ _; change Nat at b6) | (rename_i b6 _ _ _ _ _ _ _ _ _ _ _ _ _ _; change Nat at b6) | (rename_i b6 _ _ _ _ _ _ _ _ _ _ _ _ _ _ _; change Nat at b6) | (rename_i b6 _ _ _ _ _ _ _ _ _ _ _ _ _ _ _ _; change Nat at b6) | (rename_i b6 _ _ _ _ _ _ _ _ _ _ _ _ _ _ _ _ _; change Nat at b6) | (rename_i b6 _ _ _ _ _ _ _ _ _ _ _ _ _ _ _ _ _ _; change Nat at b6) | (rename_i b6 _ _ _ _ _ _ _ _ _ _ _ _ _ _ _ _ _ _ _; change Nat at b6) | (rename_i b6 _ _ _ _ _ _ _ _ _ _ _ _ _ _ _ _ _ _ _ _; change Nat at b6) | (rename_i b6 _ _ _ _ _ _ _ _ _ _ _ _ _ _ _ _ _ _ _ _ _; change Nat at b6) | (rename_i b6 _ _ _ _ _ _ _ _ _ _ _ _ _ _ _ _ _ _ _ _ _ _; change Nat at b6) | (rename_i b6 _ _ _ _ _ _ _ _ _ _ _ _ _ _ _ _ _ _ _ _ _ _ _; change Nat at b6) | (rename_i b6 _ _ _ _ _ _ _ _ _ _ _ _ _ _ _ _ _ _ _ _ _ _ _ _; change Nat at b6) | (rename_i b6 _ _ _ _ _ _ _ _ _ _ _ _ _ _ _ _ _ _ _ _ _ _ _ _ _; change Nat at b6) | (rename_i b6 _ _ _ _ _ _ _ _ _ _ _ _ _ _ _ _ _ _ _ _ _ _ _ _ _ _; change Nat at b6) | (rename_i b6 _ _ _ _ _ _ _ _ _ _ _ _ _ _ _ _ _ _ _ _ _ _ _ _ _ _ _; change Nat at b6) | (rename_i b6 _ _ _ _ _ _ _ _ _ _ _ _ _ _ _ _ _ _ _ _ _ _ _ _ _ _ _ _; change Nat at b6) | (rename_i b6 _ _ _ _ _ _ _ _ _ _ _ _ _ _ _ _ _ _ _ _ _ _ _ _ _ _ _ _ _; change Nat at b6))
  (first | (rename_i bg; change Nat at bg) | (rename_i bg _; change Nat at bg) | (rename_i bg _ _; change Nat at bg) | (rename_i bg _ _ _; change Nat at bg) | (rename_i bg _ _ _ _; change Nat at bg) | (rename_i bg _ _ _ _ _; change Nat at bg) | (rename_i bg _ _ _ _ _ _; change Nat at bg) | (rename_i bg _ _ _ _ _ _ _; change Nat at bg) | (rename_i bg _ _ _ _ _ _ _ _; change Nat at bg) | (rename_i bg _ _ _ _ _ _ _ _ _; change Nat at bg) | (rename_i bg _ _ _ _ _ _ _ _ _ _; change Nat at bg) | (rename_i bg _ _ _ _ _ _ _ _ _ _ _; change Nat at bg) | (rename_i bg _ _ _ _ _ _ _ _ _ _ _ _; change Nat at bg) | (rename_i bg _ _ _ _ _ _ _ _ _ _ _ _ _; change Nat at bg) | (rename_i bg _ _ _ _ _ _ _ _ _ _ _ _ _ _; change Nat at bg) | (rename_i bg _ _ _ _ _ _ _ _ _ _ _ _ _ _ _; change Nat at bg) | (rename_i bg _ _ _ _ _ _ _ _ _ _ _ _ _ _ _ _; change Nat at bg) | (rename_i bg _ _ _ _ _ _ _ _ _ _ _ _ _ _ _ _ _; change Nat at bg) | (rename_i bg _ _ _ _ _ _ _ _ _ _ _ _ _ _ _ _ _ _; change Nat at bg) | (rename_i bg _ _ _ _ _ _ _ _ _ _ _ _ _ _ _ _ _ _ _; change Nat at bg) | (rename_i bg _ _ _ _ _ _ _ _ _ _ _ _ _ _ _ _ _ _ _ _; change Nat at bg) | (rename_i bg _ _ _ _ _ _ _ _ _ _ _ _ _ _ _ _ _ _ _ _ _; change Nat at bg) | (rename_i bg _ _ _ _ _ _ _ _ _ _ _ _ _ _ _ _ _ _ _ _ _ _; change Nat at bg) | (rename_i bg _ _ _ _ _ _ _ _ _ _ _ _ _ _ _ _ _ _ _ _ _ _ _; change Nat at bg) | (rename_i bg _ _ _ _ _ _ _ _ _ _ _ _ _ _ _ _ _ _ _ _ _ _ _ _; change Nat at bg) | (rename_i bg _ _ _ _ _ _ _ _ _ _ _ _ _ _ _ _ _ _ _ _ _ _ _ _ _; change Nat at bg) | (rename_i bg _ _ _ _ _ _ _ _ _ _ _ _ _ _ _ _ _ _ _ _ _ _ _ _ _ _; change Nat at bg) | (rename_i bg _ _ _ _ _ _ _ _ _ _ _ _ _ _ _ _ _ _ _ _ _ _ _ _ _ _ _; change Nat at bg) | (rename_i bg _ _ _ _ _ _ _ _ _ _ _ _ _ _ _ _ _ _ _ _ _ _ _ _ _ _ _ _; change Nat at bg) | (rename_i bg _ _ _ _ _ _ _ _ _ _ _ _ _ _ _ _ _ _ _ _ _ _ _ _ _ _ _ _ _; change Nat at bg))
  have eB : (w.alloc (.cells (List.toArray [Value.slice pa len ca]) 46)).heap.size = w.heap.size + 1 := by simp
  rw [eB] at hBox
  obtain ⟨Ba, hBa⟩ : ∃ x, w.heap.size = x := ⟨_, rfl⟩
  rw [hBa] at hBox ⊢
  generalize (w.alloc (.cells (List.toArray [Value.slice pa len ca]) 46)).alloc (.cells (List.toArray [Value.slice pn len cn]) 46) = W1 at hBox ⊢
  clear hBa eB
  obtain ⟨ba, oa, lba, hpa, hca⟩ := hA.out.seen Ba hBox.below
  obtain ⟨bn, on, lbn, hpn, hcn⟩ := hN.out.seen (Ba + 1) hBox.below
  have lB := hBox.lt (.tail _ (.head _))
  have lB1 := hBox.lt (.head _)
  have hsz := hBox.le
  refine range_pairs (B0 := ws.heap.size) (w0 := ws) zs Ba (Ba + 1) ba bn oa on len ca cn pa pn (fun pre => [(Ba + 1, Obj.cells (List.toArray [Value.slice pn len cn]) 46), (Ba, Obj.cells (List.toArray [Value.slice pa len ca]) 46), (blk, Obj.cells (nl (prodL p pre)).toArray 24), (b7, Obj.cells (List.toArray [Value.int .i64 0]) 33), (b6, Obj.cells (List.toArray [Value.int .u64 0, .int .u64 0, .int .u64 0, .int .u64 0]) 24), (bg, Obj.cells (gl p q g h).toArray 26)]) (mayAll p)
    [(b7, Obj.cells (List.toArray [Value.int .i64 1]) 33), (b6, Obj.cells (List.toArray [Value.int .u64 0, .int .u64 0, .int .u64 0, .int .u64 0]) 24), (bg, Obj.cells (gl p q g h).toArray 26)] (fun pre => ∃ x ∈ pre, ¬ mayG p x.1.1) rfl hlen hpa hpn ?hb (hBox.cell (off := 0) (.tail _ (.head _)) rfl) (hBox.cell (off := 0) (.head _) rfl) hca hcn ?hR (fun x hx => absurd hx List.not_mem_nil) ?hL ?hLX ?hkeep ?hvars ?hbody ?hdone ?hstop
  case hb =>
    intro b hb
    simp only [List.mem_cons, List.not_mem_nil, or_false] at hb
    simp only at lB lB1
    rcases hb with rfl | rfl | rfl | rfl
    · exact lB
    · exact lB1
    · rcases lba with rfl | h
      · exact lB
      · omega
    · rcases lbn with rfl | h
      · exact lB1
      · omega
  case hR =>
    show Rep _ _ [_, _, (_, .cells (nl (prodL p [])).toArray _), _, _, _] _
    rw [ep.out]
    exact hBox
  case hL =>
    intro pre x hx
    simp only [List.mem_cons, List.not_mem_nil, or_false] at hx
    rcases hx with rfl | rfl | rfl | rfl | rfl | rfl <;> rfl
  case hLX =>
    intro x hx
    simp only [List.mem_cons, List.not_mem_nil, or_false] at hx
    rcases hx with rfl | rfl | rfl <;> rfl
  case hkeep =>
    intro L1 L2 pre pre' W W' hw hw' pt hpt
    refine World.cell?_of_block ?_
    have kA : W'.heap[Ba]? = W.heap[Ba]? := (hw'.own (Ba, _) (List.mem_append_right _ (.tail _ (.head _)))).2.trans (hw.own (Ba, _) (List.mem_append_right _ (.tail _ (.head _)))).2.symm
    have kN : W'.heap[Ba + 1]? = W.heap[Ba + 1]? := (hw'.own (Ba + 1, _) (List.mem_append_right _ (.head _))).2.trans (hw.own (Ba + 1, _) (List.mem_append_right _ (.head _))).2.symm
    have kO : ∀ b, b < ws.heap.size → W'.heap[b]? = W.heap[b]? := fun b hb => (hw'.below.block b hb).trans (hw.below.block b hb).symm
    simp only [List.mem_cons, List.not_mem_nil, or_false] at hpt
    rcases hpt with e | e | e | e <;> rw [e]
    · exact kA
    · exact kN
    · rcases lba with rfl | h
      · exact kA
      · exact kO _ h
    · rcases lbn with rfl | h
      · exact kN
      · exact kO _ h
  case hvars =>
    clear hBox hca hcn lB lB1 hsz lba lbn hpa hpn
    intro k pre x W K hR hK
    replace hK := Held.mk hK
    simp only [List.set_cons_succ, List.set_cons_zero]
    gi_wp2_with (first | (refine' in_alloc hR rfl rfl inferInstance ?_; clear hR; intro blk w hR) | (refine' in_loadAll hR rfl rfl rfl inferInstance ?hm ?hn ?_; (case hm => first | with_reducible assumption | repeat (first | exact .head _ | apply mT)); (case hn => first | rfl | simp)) | (refine' in_loadRow hR rfl rfl rfl inferInstance ?hm ?hv ?hn ?_; (case hm => first | with_reducible assumption | repeat (first | exact .head _ | apply mT)); (case hv => first | with_reducible assumption | (simp only [kC, kD, kE, kF]; try rfl)); (case hn => first | rfl | simp)) | (refine' in_storeAll hR rfl rfl rfl inferInstance rfl ?hs ?zone ?zvn ?hn ?_; (case hs => repeat (first | exact xAx.head | apply xAx.tail)); (case zone => first | rfl | with_reducible assumption); (case zvn => first | rfl | simp); (case hn => first | rfl | simp); clear hR; intro w hR) | (refine' in_storeCell hR rfl rfl rfl inferInstance rfl rfl ?hs ?hn ?hl ?_; (case hs => repeat (first | exact xAx.head | apply xAx.tail)); (case hn => first | exact oD rfl | (simp; try omega)); (case hl => rfl); clear hR; intro w hR))
    exact hK.out _ _ _ hR
  case hbody =>
    clear hBox hca hcn lB lB1 hsz lba lbn hpa hpn
    intro k pre x c9 c10 W hR hM
    unfold slotsP
    simp only [List.set_cons_succ, List.set_cons_zero]
    have hn1' : 1 ≤ 5 - 1 - 1 := by decide
    have lpre := prodL_lt h1 pre
    obtain ⟨P0, hP0⟩ : ∃ P0, prodL p pre = P0 := ⟨_, rfl⟩
    by_cases hx : mayG p x.1.1
    · obtain ⟨X, hX⟩ : ∃ X, powN x.1.1 x.1.2 p = X := ⟨_, rfl⟩
      have lX : X < p := by rw [← hX]; exact pow_lt' h1 _ _
      have e1 := gexp_lit (q := q) (g := g) (h := h) (r := X) (e := 0) hp x.2.1 x.2.2 (by rw [if_pos hx, hX]) (if_pos hx)
      obtain ⟨P1, hP1⟩ : ∃ P1, prodL p (pre ++ [x]) = P1 := ⟨_, rfl⟩
      have m1 := mmul_lit (a := P0) (b := X) (m := p) (r := P1) (e := 0) (by omega) (by omega) hp (by rw [if_pos ⟨h1, by omega, lX⟩, ← hP1, prodL_snoc, stepP_def, hX, hP0]) (if_pos ⟨h1, by omega, lX⟩)
      rw [hP0] at hR
      have hfin : mayAll p (pre ++ [x]) := mayAll_snoc hM hx
      rw [hP1]
      replace hfin := Held.mk hfin
      clear hP0 hP1 hX lX lpre hM hx
      gi_wp2_with (first | (refine' in_alloc hR rfl rfl inferInstance ?_; clear hR; intro blk w hR) | (refine' in_loadAll hR rfl rfl rfl inferInstance ?hm ?hn ?_; (case hm => first | with_reducible assumption | repeat (first | exact .head _ | apply mT)); (case hn => first | rfl | simp)) | (refine' in_loadRow hR rfl rfl rfl inferInstance ?hm ?hv ?hn ?_; (case hm => first | with_reducible assumption | repeat (first | exact .head _ | apply mT)); (case hv => first | with_reducible assumption | (simp only [kC, kD, kE, kF]; try rfl)); (case hn => first | rfl | simp)) | (refine' in_storeAll hR rfl rfl rfl inferInstance rfl ?hs ?zone ?zvn ?hn ?_; (case hs => repeat (first | exact xAx.head | apply xAx.tail)); (case zone => first | rfl | with_reducible assumption); (case zvn => first | rfl | simp); (case hn => first | rfl | simp); clear hR; intro w hR) | (refine' in_storeCell hR rfl rfl rfl inferInstance rfl rfl ?hs ?hn ?hl ?_; (case hs => repeat (first | exact xAx.head | apply xAx.tail)); (case hn => first | exact oD rfl | (simp; try omega)); (case hl => rfl); clear hR; intro w hR) | (refine ⟨trivial, ?_⟩; gi_at_call 8; refine (CallsIn.inRound k (callsIn_wide.2 (e1 _))).mono ?_; rintro e W2 ⟨rfl, hb⟩; replace hR := hR.call hb; clear hb) | (refine ⟨trivial, ?_⟩; gi_at_call 30; refine (CallsIn.inRound k (callsIn_wide.2 (m1 _))).mono ?_; rintro e W2 ⟨rfl, hb⟩; replace hR := hR.call hb; clear hb))
      exact ⟨hR.weaken (List.sublist_append_right [_, _, _] _), hfin.out⟩
    · have e1 := gexp_lit (q := q) (g := g) (h := h) (r := 0) (e := 1) hp x.2.1 x.2.2 (by rw [if_neg hx]) (if_neg hx)
      rw [z_num] at e1
      rw [hP0] at hR
      have hfin : ∃ y ∈ pre ++ [x], ¬ mayG p y.1.1 := ⟨x, by simp, hx⟩
      replace hfin := Held.mk hfin
      clear hP0 lpre hM hx
      gi_wp2_with (first | (refine' in_alloc hR rfl rfl inferInstance ?_; clear hR; intro blk w hR) | (refine' in_loadAll hR rfl rfl rfl inferInstance ?hm ?hn ?_; (case hm => first | with_reducible assumption | repeat (first | exact .head _ | apply mT)); (case hn => first | rfl | simp)) | (refine' in_loadRow hR rfl rfl rfl inferInstance ?hm ?hv ?hn ?_; (case hm => first | with_reducible assumption | repeat (first | exact .head _ | apply mT)); (case hv => first | with_reducible assumption | (simp only [kC, kD, kE, kF]; try rfl)); (case hn => first | rfl | simp)) | (refine' in_storeAll hR rfl rfl rfl inferInstance rfl ?hs ?zone ?zvn ?hn ?_; (case hs => repeat (first | exact xAx.head | apply xAx.tail)); (case zone => first | rfl | with_reducible assumption); (case zvn => first | rfl | simp); (case hn => first | rfl | simp); clear hR; intro w hR) | (refine' in_storeCell hR rfl rfl rfl inferInstance rfl rfl ?hs ?hn ?hl ?_; (case hs => repeat (first | exact xAx.head | apply xAx.tail)); (case hn => first | exact oD rfl | (simp; try omega)); (case hl => rfl); clear hR; intro w hR) | (refine ⟨trivial, ?_⟩; gi_at_call 8; refine (CallsIn.inRound k (callsIn_wide.2 (e1 _))).mono ?_; rintro e W2 ⟨rfl, hb⟩; replace hR := hR.call hb; clear hb))
      exact ⟨hR.weaken (List.sublist_append_right [_, _, _, _, _, _] _), hfin.out⟩
  case hdone =>
    clear hBox hca hcn lB lB1 hsz lba lbn hpa hpn
    intro D W hR hM
    go_wp2_with (first | (refine' xAb hR rfl rfl rfl ?_; clear hR; intro blk w hR) | (refine' xAa hR rfl rfl inferInstance ?_; clear hR; intro blk w hR) | (refine' aAq hR rfl rfl rfl inferInstance ?_) | (refine' aBq hR rfl rfl rfl inferInstance ?_) | (refine' aCq hR rfl rfl rfl inferInstance ?_) | (refine' aDq hR rfl rfl rfl inferInstance rfl ?_; clear hR; intro w hR) | (refine' aEq hR rfl rfl rfl inferInstance rfl rfl ?_; clear hR; intro w hR) | fail)
    refine ⟨by simp, .inl ⟨_, _, rfl, run_takeDeferred (hR.own _ (List.Mem.head _)).2, ?_⟩⟩
    have hR3 := hR.putHead (.deferred none)
    (refine' ⟨_, results_cc Tryz.results21 rfl (hR3.loadAll (P := Tryz.prog) (ty := 24) ?hm ?hn) rfl (hR3.loadCell (P := Tryz.prog) (ty := 33) ?hm2 ?hn2), ?_, hR3.below⟩; (case hm => repeat (first | exact .head _ | apply mT)); (case hn => rfl); (case hm2 => repeat (first | exact .head _ | apply mT)); (case hn2 => rfl))
    exact .inl ⟨hM, rfl⟩
  case hstop =>
    clear hBox hca hcn lB lB1 hsz lba lbn hpa hpn
    rintro D m W hm hR ⟨x, hx, hno⟩
    have hfin : ¬ mayAll p (up zs len) := fun h => hno (h x (up_mono hm hx))
    try simp only [Exit.then]
    refine ⟨by simp, .inl ⟨_, _, rfl, run_takeDeferred (hR.own _ (List.Mem.head _)).2, ?_⟩⟩
    have hR3 := hR.putHead (.deferred none)
    (refine' ⟨_, results_cc Tryz.results21 rfl (hR3.loadAll (P := Tryz.prog) (ty := 24) ?hm ?hn) rfl (hR3.loadCell (P := Tryz.prog) (ty := 33) ?hm2 ?hn2), ?_, hR3.below⟩; (case hm => repeat (first | exact .head _ | apply mT)); (case hn => rfl); (case hm2 => repeat (first | exact .head _ | apply mT)); (case hn2 => rfl))
    exact .inr ⟨hfin, by rw [← xCs]⟩
end
end Go.Proofs.YtgfoeongjhkdmaaGreat
