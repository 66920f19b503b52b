/- GProd: OpenPairs, ProdPlain, Grow, CutN. -/
import Derived.DataReads
import Derived.Test.YtdmdkdodfngjiaaOpenAll
import Derived.Test.YtdmdkdodfngjiaaProd
import Derived.Maps.AppendAt
import Derived.Laws.MakeOwn
import Derived.Test.YtdmdkdodfngjiaaLaw08
set_option linter.unusedSimpArgs false
set_option linter.unusedVariables false
/- A slice of pairs of long numbers that came in. -/
namespace Go.Proofs.Ytdmdkdodfngjiaa
open Go.RowKit Go.ChangeShapes

/-- Pairs of long numbers in the caller's memory. -/
def PairsAt (w : World) (v : Value) (n : Nat) (zs : Nat → Pair) : Prop := ∃ a cap, v = .slice a n cap ∧ n ≤ cap ∧ cap ≤ maxLen ∧
  (0 < n → ∃ b o, a = some ⟨b, o, none⟩ ∧ b < w.heap.size ∧ ∀ j, j < n → liesAt w b (o + j * 8) (zs j).1.1 ∧ liesAt w b (o + j * 8 + 4) (zs j).1.2)
theorem addr_plain8 {W : World} {a : Addr} {v : Value} (hc0 : W.cell? (a.add 0) = some v) : ∃ bb off, a = ⟨bb, off, none⟩ ∧ bb < W.heap.size := by
  obtain ⟨bb, off, sp⟩ := a
  have hblk : bb < W.heap.size := by
    unfold World.cell? at hc0
    split at hc0
    · rename_i hh
      have hb := (Array.getElem?_eq_some_iff.1 hh).1
      have : ((⟨bb, off, sp⟩ : Addr).add 0).block = bb := by unfold Addr.add; split <;> rfl
      rw [this] at hb
      exact hb
    · cases hc0
  have hsp : sp = none := by
    cases sp with
    | none => rfl
    | some s =>
      have hs : ((⟨bb, off, some s⟩ : Addr).add 0).spot.isSome = true := by unfold Addr.add; split <;> simp_all
      unfold World.cell? at hc0
      split at hc0
      · rw [if_pos hs] at hc0; cases hc0
      · cases hc0
  subst hsp
  exact ⟨bb, off, rfl, hblk⟩
theorem addr_none8 (bb off j : Nat) : ((⟨bb, off, none⟩ : Addr).add j) = ⟨bb, off + j, none⟩ := by
  unfold Addr.add; split <;> simp_all
theorem lies_of {w : World} {b i a : Nat} (h : ∀ k, k < 4 → w.cell? ⟨b, i + k, none⟩ = (nl a)[k]?) : liesAt w b i a :=
  ⟨by have := h 0 (by decide); exact this, by have := h 1 (by decide); exact this, by have := h 2 (by decide); exact this, by have := h 3 (by decide); exact this⟩
theorem pair_zero : (0 : Nat) < B ∧ (0 : Nat) < B := ⟨B_pos, B_pos⟩
set_option maxRecDepth 100000 in
theorem is_pairs {W : World} {b0 : Nat} {r : Reach} {v : Value} (hval : Value.okWide Try.prog W r b0 52 v) : v.cells = #[v] := by
  cases v <;> first | rfl | (simp [Value.okWide, Cell.okWide, Cell.ok, Try.underlying52] at hval; done)
theorem trod_pair {H : Type} {enc : TypeId × Value → H} {W : World} {base fuel : Nat} {sp : Nat → Bool} {held : Bool} {l : List Value} {y : DataW H × List MemPlace} (hl : l.length = 8) (hf : DataW.trod enc Try.prog W base sp held fuel 37 l = some y) :
    ∃ a b, a < B ∧ b < B ∧ l = nl a ++ nl b := by
  obtain ⟨xs, m, _, hx, _, hn, hi⟩ := DataW.trod_array Try.underlying37 hf
  rw [cells_num] at hi
  obtain ⟨x0, x1, rfl⟩ := list2 xs hn
  have h0 := hi 0 (by decide)
  have h1 := hi 1 (by decide)
  have e : l = (l.drop (0 * 4)).take 4 ++ (l.drop (1 * 4)).take 4 := by
    have t1 : (l.drop 4).take 4 = l.drop 4 := List.take_of_length_le (by simp; omega)
    show l = (l.drop 0).take 4 ++ (l.drop 4).take 4
    rw [t1, List.drop_zero, List.take_append_drop]
  obtain ⟨a, la, ea, rfl⟩ := trod_num (by simp; omega) h0
  obtain ⟨b, lb, eb, rfl⟩ := trod_num (by simp; omega) h1
  rw [ea, eb] at e
  exact ⟨a, b, la, lb, e⟩
set_option maxRecDepth 100000 in
theorem open_pairs {H : Type} {enc : TypeId × Value → H} {W : World} {base : Nat} {spare : Nat → Bool} {held : Bool} {b0 : Nat} {r : Reach} {v : Value} {d : DataW H} {ps : List MemPlace} (hval : Value.okWide Try.prog W r b0 52 v) (h0 : DataW.Trod enc Try.prog W base spare held 52 v d ps) :
    ∃ n zs, PairsAt W v n zs := by
  obtain ⟨fuel, h⟩ := h0
  rw [is_pairs hval] at h
  rcases DataW.trod_slice Try.underlying52 h with ⟨h1, _⟩ | ⟨a, len, cap, elems, rest, n, _, h1, _, _, hl, hm, hlen, hel, _, _⟩
  · obtain rfl := (List.cons.inj (show [v] = _ from h1)).1
    exact ⟨0, fun _ => ⟨(0, 0), pair_zero⟩, none, 0, rfl, Nat.le_refl _, Nat.zero_le _, fun h => absurd h (by decide)⟩
  · obtain rfl := (List.cons.inj (show [v] = _ from h1)).1
    rw [cells_num2] at hel
    have each : ∀ j, j < len → ∃ z : Pair, ∀ k, k < 8 → W.cell? ((a.add (j * 8)).add k) = (nl z.1.1 ++ nl z.1.2)[k]? := fun j hj => by
      have h2 := hel j hj
      rw [List.getElem?_eq_getElem (by omega), Option.bind_eq_some_iff] at h2
      obtain ⟨cs, hc, ht⟩ := h2
      obtain ⟨_, c2, c3⟩ := World.cells?_some hc
      obtain ⟨x, y, lx, ly, rfl⟩ := trod_pair c2 ht
      exact ⟨⟨(x, y), lx, ly⟩, c3⟩
    classical
    obtain ⟨zs, hzs⟩ : ∃ zs : Nat → Pair, ∀ j, j < len → ∀ k, k < 8 → W.cell? ((a.add (j * 8)).add k) = (nl (zs j).1.1 ++ nl (zs j).1.2)[k]? := by
      refine ⟨fun j => if hj : j < len then (each j hj).choose else ⟨(0, 0), pair_zero⟩, fun j hj => ?_⟩
      simp only [dif_pos hj]
      exact (each j hj).choose_spec
    refine ⟨len, zs, some a, cap, rfl, hl, hm, fun hpos => ?_⟩
    have hc0 := hzs 0 hpos 0 (by decide)
    have e0 : (nl (zs 0).1.1 ++ nl (zs 0).1.2)[0]? = some (.int .u64 (wd (zs 0).1.1 0)) := rfl
    rw [e0, Nat.zero_mul] at hc0
    have ea : (a.add 0).add 0 = a.add 0 := by unfold Addr.add; split <;> simp_all
    rw [ea] at hc0
    obtain ⟨bb, off, rfl, hblk⟩ := addr_plain8 hc0
    refine ⟨bb, off, rfl, hblk, fun j hj => ⟨lies_of fun k hk => ?_, lies_of fun k hk => ?_⟩⟩
    · have := hzs j hj k (by omega)
      rw [addr_none8, addr_none8] at this
      rw [this]; exact List.getElem?_append_left (l₁ := nl (zs j).1.1) (l₂ := nl (zs j).1.2) hk
    · have := hzs j hj (4 + k) (by omega)
      rw [addr_none8, addr_none8, ← Nat.add_assoc] at this
      rw [this, List.getElem?_append_right (l₁ := nl (zs j).1.1) (Nat.le_add_right 4 k)]
      show (nl (zs j).1.2)[4 + k - 4]? = _
      rw [Nat.add_sub_cancel_left]
end Go.Proofs.Ytdmdkdodfngjiaa

/- Products of powers: the plain part. -/
namespace Go.Proofs.Ytdmdkdodfngjiaa
open Go.RowKit
theorem mul_assocP (a b c p : Nat) : mulN (mulN a b p) c p = mulN a (mulN b c p) p := by
  rw [mulN_def, mulN_def, mulN_def, mulN_def, Nat.mod_mul_mod, Nat.mul_mod_mod, Nat.mul_assoc]
theorem mul_commP (a b p : Nat) : mulN a b p = mulN b a p := by rw [mulN_def, mulN_def, Nat.mul_comm]
theorem mul_oneP {a p : Nat} (h : a < p) : mulN a 1 p = a := by rw [mulN_def, Nat.mul_one, Nat.mod_eq_of_lt h]
theorem prodL_nil (p : Nat) : prodL p [] = 1 := rfl
theorem prodL_append {p : Nat} (h : 1 < p) (l1 l2 : List Pair) : prodL p (l1 ++ l2) = mulN (prodL p l1) (prodL p l2) p := by
  rcases hl : l2.reverse with _ | ⟨x, r⟩
  · obtain rfl : l2 = [] := by simpa using hl
    rw [List.append_nil, prodL_nil, mul_oneP (prodL_lt h l1)]
  · obtain rfl : l2 = r.reverse ++ [x] := by
      have := congrArg List.reverse hl
      simpa using this
    clear hl
    induction hn : r.length generalizing r x with
    | zero =>
      obtain rfl := List.length_eq_zero_iff.1 hn
      show prodL p (l1 ++ [x]) = mulN (prodL p l1) (prodL p ([] ++ [x])) p
      rw [prodL_snoc, prodL_snoc, stepP_def, stepP_def, prodL_nil, mul_commP 1, ← mul_assocP]
      rw [mul_oneP (by rw [mulN_def]; exact Nat.mod_lt _ (by omega))]
    | succ n ih =>
      match r, hn with
      | y :: r', hn =>
        have := ih y r' (by simpa using hn)
        rw [List.reverse_cons, ← List.append_assoc, prodL_snoc p _ x, this, prodL_snoc p (r'.reverse ++ [y]) x, stepP_def, stepP_def, mul_assocP]
theorem prodL_one {p : Nat} (h : 1 < p) (x : Pair) : prodL p [x] = powN x.1.1 x.1.2 p := by
  have : prodL p [x] = stepP p (prodL p []) x := prodL_snoc p [] x
  rw [this, stepP_def, prodL_nil, mul_commP, mul_oneP (pow_lt' h _ _)]
theorem prodL_reverse {p : Nat} (h : 1 < p) : ∀ l : List Pair, prodL p l.reverse = prodL p l
  | [] => rfl
  | x :: l => by
    have e : x :: l = [x] ++ l := rfl
    rw [List.reverse_cons, prodL_append h, prodL_reverse h l, mul_commP, e, prodL_append h]
theorem up_rev (zs : Nat → Pair) (N : Nat) : up (fun j => zs (N - 1 - j)) N = (up zs N).reverse := by
  unfold up
  refine List.ext_getElem (by simp) fun i h1 h2 => ?_
  simp
theorem up_split (zs : Nat → Pair) (k m : Nat) : up zs (k + m) = up zs k ++ up (fun j => zs (k + j)) m := by
  unfold up
  rw [List.range_add, List.map_append, List.map_map]
  rfl
theorem mayAll_rev {p : Nat} {l : List Pair} : mayAll p l.reverse ↔ mayAll p l := ⟨fun h x hx => h x (List.mem_reverse.2 hx), fun h x hx => h x (List.mem_reverse.1 hx)⟩
theorem mayAll_app {p : Nat} {l m : List Pair} (h : mayAll p (l ++ m)) : mayAll p l ∧ mayAll p m := ⟨fun x hx => h x (List.mem_append_left _ hx), fun x hx => h x (List.mem_append_right _ hx)⟩
end Go.Proofs.Ytdmdkdodfngjiaa

/- Slices of long numbers of the call's own that grow; a loop that goes on while a measure falls. -/
namespace Go.Proofs.Ytdmdkdodfngjiaa
open Go.RowKit
/-- A loop that goes on while a measure falls, over memory of its own, told up to some slots. -/
theorem loop_whileN {α : Type} {P : Program} {c : Code} {Q : Exit → Act → World → Prop} {l : List Value} {d : List Deferred} {w w0 : World} {B0 : Nat} (mask : List Bool) (upd : α → List Value → List Value) (L : α → List (Nat × Obj)) (μ : α → Nat) (Ok : α → Prop) (x0 : α)
    (h0 : agree mask (upd x0 l) l) (hO : Ok x0) (hR : Rep B0 w0 (L x0) w)
    (hs : ∀ x tm w, Ok x → agree mask (upd x l) tm → Rep B0 w0 (L x) w → ∀ K : Act → World → Prop, Held (∀ y tm' w', Ok y → μ y < μ x → agree mask (upd y l) tm' → Rep B0 w0 (L y) w' → K ⟨tm'.toArray, d⟩ w') → c.wp P (Exit.then K Q) ⟨tm.toArray, d⟩ w) : (Code.loop c).wp P Q ⟨l.toArray, d⟩ w := by
  have key : ∀ n x, μ x ≤ n → Ok x → ∀ tm w, agree mask (upd x l) tm → Rep B0 w0 (L x) w → Code.rounds P c Q (n + 1) ⟨tm.toArray, d⟩ w := by
    intro n
    induction n with
    | zero => intro x hx hO tm w h1 h2; exact hs x tm w hO h1 h2 _ ⟨fun y tm' w' _ hy _ _ => by omega⟩
    | succ n ih =>
      intro x hx hO tm w h1 h2
      exact hs x tm w hO h1 h2 _ ⟨fun y tm' w' hO' hy h1' h2' => ih y (by omega) hO' tm' w' h1' h2'⟩
  exact wp_loop_rounds (μ x0 + 1) (key (μ x0) x0 (Nat.le_refl _) hO l w h0 hR)
section
variable {P : Program} {w w0 : World} {B0 : Nat} {L : List (Nat × Obj)}
theorem Rep.growN {w' : World} {row : Option Nat} (h : Rep B0 w0 L w) (hg : w.grownBy w' row) (hr : ∀ r, row = some r → B0 ≤ r ∧ ∀ p, p ∈ L → p.1 ≠ r) : Rep B0 w0 L w' :=
  ⟨h.below.grown hg h.le (fun k hk => (hr k hk).1), by have := hg.size; have := h.le; omega, fun p hp => ⟨(h.own p hp).1, by
    have hp1 := (h.own p hp).2
    have hlt : p.1 < w.heap.size := (Array.getElem?_eq_some_iff.1 hp1).1
    rw [hg.block p.1 hlt (fun e => (hr p.1 e.symm).2 p hp rfl)]
    exact hp1⟩, h.uniq⟩
theorem Rep.addN (h : Rep B0 w0 L w) {b : Nat} {o : Obj} (hb : B0 ≤ b) (ho : w.heap[b]? = some o) (hn : ∀ p, p ∈ L → p.1 ≠ b) : Rep B0 w0 ((b, o) :: L) w :=
  ⟨h.below, h.le, fun p hp => by
    rcases List.mem_cons.1 hp with rfl | hp
    · exact ⟨hb, ho⟩
    · exact h.own p hp, by
    rw [List.map_cons, List.nodup_cons]
    refine ⟨fun hm => ?_, h.uniq⟩
    obtain ⟨p, hp, e⟩ := List.mem_map.1 hm
    exact hn p hp e⟩
theorem Rep.dropN {p : Nat × Obj} (h : Rep B0 w0 (p :: L) w) : Rep B0 w0 L w := h.weaken (List.sublist_cons_self _ _)
theorem Rep.apartN {p : Nat × Obj} (h : Rep B0 w0 (p :: L) w) : ∀ q, q ∈ L → q.1 ≠ p.1 := fun q hq e => by
  have := h.uniq
  rw [List.map_cons, List.nodup_cons] at this
  exact this.1 (List.mem_map.2 ⟨q, hq, e⟩)
theorem Rep.permN {L' : List (Nat × Obj)} (h : Rep B0 w0 L w) (hp : L.Perm L') : Rep B0 w0 L' w := by
  rw [← Rep.perm hp]; exact h
end

/-- Such a slice: its place, its room, its block. -/
structure GrN where
  a : Option Addr
  cap : Nat
  bl : List (Nat × Obj)
/-- The cells of the first n of some long numbers. -/
noncomputable def rowsN (f : Nat → Nat) (n : Nat) : List Value := (List.range n).flatMap fun j => nl (f j)
theorem rowsN_succ (f : Nat → Nat) (n : Nat) : rowsN f (n + 1) = rowsN f n ++ nl (f n) := by
  unfold rowsN; rw [List.range_succ, List.flatMap_append]; simp
theorem nl_len (a : Nat) : (nl a).length = 4 := rfl
theorem rowsN_length (f : Nat → Nat) (n : Nat) : (rowsN f n).length = n * 4 := by
  induction n with
  | zero => rfl
  | succ n ih => rw [rowsN_succ, List.length_append, ih, nl_len]; omega
theorem rowsN_at (f : Nat → Nat) : ∀ (n j k : Nat), j < n → k < 4 → (rowsN f n)[j * 4 + k]? = (nl (f j))[k]?
  | 0, j, _, h, _ => absurd h (Nat.not_lt_zero j)
  | n + 1, j, k, h, hk => by
    rw [rowsN_succ]
    by_cases hj : j < n
    · rw [List.getElem?_append_left (by rw [rowsN_length]; omega)]
      exact rowsN_at f n j k hj hk
    · obtain rfl : j = n := by omega
      rw [List.getElem?_append_right (by rw [rowsN_length]; omega), rowsN_length, Nat.add_sub_cancel_left]
def GrNOk (x : GrN) (n : Nat) (f : Nat → Nat) : Prop := (x = ⟨none, 0, []⟩ ∧ n = 0) ∨
  ∃ g, ∃ cur : List Value, x.a = some ⟨g, 0, none⟩ ∧ x.bl = [(g, .cells cur.toArray 24)] ∧ n ≤ x.cap ∧ x.cap ≤ maxLen ∧ cur.length = x.cap * 4 ∧ cur.take (n * 4) = rowsN f n
theorem grN_zero (f : Nat → Nat) : GrNOk ⟨none, 0, []⟩ 0 f := .inl ⟨rfl, rfl⟩
theorem grN_cap {x : GrN} {n : Nat} {f : Nat → Nat} (h : GrNOk x n f) : n ≤ x.cap ∧ x.cap ≤ maxLen := by
  rcases h with ⟨rfl, rfl⟩ | ⟨g, cur, ha, hbl, h1, h2, h3, h4⟩
  · exact ⟨Nat.le_refl _, Nat.zero_le _⟩
  · exact ⟨h1, h2⟩
theorem grN_at {x : GrN} {n : Nat} {f : Nat → Nat} (h : GrNOk x n f) (hn : 0 < n) : ∃ g, x.a = some ⟨g, 0, none⟩ ∧ ∀ (B0 : Nat) (w0 : World) (L : List (Nat × Obj)) (w : World), Rep B0 w0 L w → (∀ p, p ∈ x.bl → p ∈ L) → g < w.heap.size ∧ ∀ j, j < n → liesAt w g (j * 4) (f j) := by
  rcases h with ⟨rfl, rfl⟩ | ⟨g, cur, ha, hbl, h1, h2, h3, h4⟩
  · exact absurd hn (by decide)
  · refine ⟨g, ha, fun B0 w0 L w hR hL => ⟨hR.lt (hL _ (by rw [hbl]; exact .head _)), fun j hj => lies_of fun k hk => ?_⟩⟩
    have hm : (g, Obj.cells cur.toArray 24) ∈ L := hL _ (by rw [hbl]; exact .head _)
    have e := rowsN_at f n j k hj hk
    rw [← h4, List.getElem?_take, if_pos (by omega)] at e
    obtain ⟨u, hu⟩ : ∃ u, (nl (f j))[k]? = some u := ⟨_, List.getElem?_eq_getElem (show k < (nl (f j)).length from hk)⟩
    rw [hu] at e ⊢
    exact hR.cell hm e
/-- A stretch of them, as a slice of long numbers. -/
theorem grN_nums {x : GrN} {n : Nat} {f : Nat → Nat} (h : GrNOk x n f) (i m : Nat) (him : i + m ≤ n) (pa : Option Addr) (hpa : ∀ g, x.a = some ⟨g, 0, none⟩ → 0 < m → pa = some ⟨g, i * 4, none⟩) {B0 : Nat} {w0 : World} {L : List (Nat × Obj)} {w : World} (hR : Rep B0 w0 L w) (hL : ∀ p, p ∈ x.bl → p ∈ L) : NumsAt w pa m fun j => f (i + j) :=
  ⟨fun hm => by
    obtain ⟨g, hg, h2⟩ := grN_at h (by omega)
    obtain ⟨h3, h4⟩ := h2 B0 w0 L w hR hL
    refine ⟨g, i * 4, hpa g hg hm, h3, fun j hj => ?_⟩
    have := h4 (i + j) (by omega)
    rw [Nat.add_mul] at this
    exact this⟩
theorem info_numT : (Try.prog.info? 24).map (fun i => (i.zero.map (fun z => z.cells.size), i.size, i.bytes)) = some (some 4, 4, 32) := by kernel_rfl
theorem info_numP : ∃ i z, Try.prog.info? 24 = some i ∧ i.zero = some z ∧ z.cells.size = 4 ∧ i.size = 4 ∧ i.bytes = 32 := by
  have h := info_numT
  cases hi : Try.prog.info? 24 with
  | none => rw [hi] at h; cases h
  | some i =>
    rw [hi] at h
    simp only [Option.map_some, Option.some.injEq, Prod.mk.injEq] at h
    obtain ⟨h1, h2, h3⟩ := h
    cases hz : i.zero with
    | none => rw [hz] at h1; cases h1
    | some z => rw [hz] at h1; exact ⟨i, z, rfl, hz, by simpa using h1, h2, h3⟩
theorem nl_cells (a : Nat) : ∀ u ∈ nl a, u.oneCell' = true := fun u hu => by
  simp only [nl, List.mem_cons, List.not_mem_nil, or_false] at hu
  rcases hu with rfl | rfl | rfl | rfl <;> rfl
section
variable {w w0 : World} {B0 : Nat} {R : List (Nat × Obj)} {ops : Array Oper} {rest : List Oper} {o : Oper} {a : Act} {Q : Exit → Act → World → Prop}
/-- A load by a run that is known. -/
theorem wpList_loadFromN (hg : Region.wanted o (yielded ops a.tmps) = true) {ty : TypeId} {x : Operand} (ho : o.op = .load ty x) {ad : Addr} (hx : a.eval x = .pointer (some ad)) {v : Value}
    (hrun : (loadVar ty ad).run Try.prog w = .ok v w) (h : wpList Try.prog ops Q rest (a.put o.dst v) w) : wpList Try.prog ops Q (o :: rest) a w :=
  wpList_wanted hg fun _ hK => by
    unfold Oper.wp execOp
    simp only [ho, hx, Instr.loadAt, Instr.sureAddr, Sem.run_bind, Sem.run_pure, Result.andThen_ok, hrun]
    exact hK _ _ h
/-- append of one more, which lies in a block of its own. -/
theorem wpList_appendN {L' : List (Nat × Obj) → List (Nat × Obj)} {x : GrN} {n : Nat} {f : Nat → Nat} {b v : Nat} (hR : Rep B0 w0 ((b, .cells (nl v).toArray 24) :: L' x.bl) w) (hp : ∀ l, (L' l).Perm (l ++ R)) (hgd : o.guard = none) {s y : Operand} (ho : o.op = .call { callee := .builtin .append, args := #[s, y], argTypes := #[53, 53] })
    (hs : a.eval s = .slice x.a n x.cap) (hy : a.eval y = .slice (some ⟨b, 0, none⟩) 1 1) (hg : GrNOk x n f) (hv : f n = v) (hbig : n ≤ 1000000)
    (h : ∀ (x' : GrN) w', GrNOk x' (n + 1) f → Rep B0 w0 (L' x'.bl) w' → wpList Try.prog ops Q rest (a.put o.dst (.slice x'.a (n + 1 : Nat) x'.cap)) w') : wpList Try.prog ops Q (o :: rest) a w := by
  subst hv
  obtain ⟨i, z, hi, hz, hzs, hsize, hby⟩ := info_numP
  have hnews : ∀ j u, (nl (f n))[j]? = some u → w.cell? ((⟨b, 0, none⟩ : Addr).add j) = some u := fun j u hj => by
    rw [addr_none8, Nat.zero_add]
    exact hR.cell (.head _) hj
  have hlt : b < w.heap.size := hR.lt (.head _)
  have hR0 : Rep B0 w0 (x.bl ++ R) w := hR.dropN.permN (hp x.bl)
  have hm63 : n + 1 ≤ maxLen := by unfold maxLen; omega
  have hmb : (n + 1) * 32 ≤ 140737488355328 := by omega
  rcases hg with ⟨rfl, rfl⟩ | ⟨g, cur, ha, hbl, h1, h2, h3, h4⟩
  · refine wpList_append_own_at (P := Try.prog) w hgd s y 53 ho B0 24 i z 4 32 Try.underlying53 hi hz hsize hby hzs (by decide) (.slice none 0 0) 0 [] hs ⟨by simp, .inl ⟨rfl, rfl⟩⟩ _ 1 1 (nl (f 0)) hy rfl hnews (nl_cells _) hm63 hmb hR.le ?_
    intro v' w' hO hgr hiff hat
    obtain ⟨hl', ⟨hv, _⟩ | ⟨g', cap', cur', rfl, hB, hh, k2, k3, k4, k5⟩⟩ := hO
    · exact absurd (hiff.1 hv).2 (by decide)
    · have hR' := hR0.growN hgr (fun r hr => by cases hr)
      have hgg : g' = w.heap.size := by
        rcases hat with hat | hat
        · cases hat
        · exact Option.some.inj hat
      have hR2 := hR'.addN hB hh (fun p hp e => by
        have := hR0.lt hp
        omega)
      refine h ⟨some ⟨g', 0, none⟩, cap', [(g', .cells cur'.toList.toArray 24)]⟩ w' (.inr ⟨g', cur'.toList, rfl, rfl, k2, k3, by simpa using k4, ?_⟩) (Rep.permN ?_ (hp _).symm)
      · rw [k5]; rfl
      · simpa using hR2
  · rw [hbl] at hR0
    have hR1 : Rep B0 w0 ((g, .cells cur.toArray 24) :: R) w := hR0
    rw [ha] at hs
    refine wpList_append_own_at (P := Try.prog) w hgd s y 53 ho B0 24 i z 4 32 Try.underlying53 hi hz hsize hby hzs (by decide) _ n (rowsN f n) hs ⟨by rw [rowsN_length], .inr ⟨g, x.cap, cur.toArray, rfl, (hR1.own _ (.head _)).1, (hR1.own _ (.head _)).2, h1, h2, by simpa using h3, by simpa using h4⟩⟩ _ 1 1 (nl (f n)) hy rfl hnews (nl_cells _) hm63 hmb hR.le ?_
    intro v' w' hO hgr hiff hat
    obtain ⟨hl', ⟨hv, _⟩ | ⟨g', cap', cur', rfl, hB, hh, k2, k3, k4, k5⟩⟩ := hO
    · exact absurd (hiff.1 hv).2 (by decide)
    · have hR' := hR1.dropN.growN hgr (fun r hr => by
        obtain rfl : g = r := Option.some.inj hr
        exact ⟨(hR1.own _ (.head _)).1, hR1.apartN⟩)
      have hR2 := hR'.addN hB hh (fun p hp e => by
        rcases hat with hat | hat
        · have hgg : g' = g := Option.some.inj hat
          exact hR1.apartN p hp (e.trans hgg)
        · have hgg : g' = w.heap.size := Option.some.inj hat
          have := hR1.lt (.tail _ hp)
          omega)
      refine h ⟨some ⟨g', 0, none⟩, cap', [(g', .cells cur'.toList.toArray 24)]⟩ w' (.inr ⟨g', cur'.toList, rfl, rfl, k2, k3, by simpa using k4, ?_⟩) (Rep.permN ?_ (hp _).symm)
      · rw [k5, rowsN_succ]
      · simpa using hR2
end
end Go.Proofs.Ytdmdkdodfngjiaa

/- Slices of long numbers, cut in two. -/
namespace Go.Proofs.Ytdmdkdodfngjiaa
open Go.RowKit
theorem cutN_low {x : GrN} {n k : Nat} {f : Nat → Nat} (h : GrNOk x n f) (hk : k ≤ n) : ∃ pa ca, (∀ w, (Instr.sliceAt 53 (.slice x.a n x.cap) none (some (.int .i64 (k : Int))) none).run Try.prog w = .ok (.slice pa k ca) w) ∧ ∀ g, x.a = some ⟨g, 0, none⟩ → 0 < k → pa = some ⟨g, 0 * 4, none⟩ := by
  have h0 := grN_cap h
  unfold maxLen at h0
  have g0 : 0 ≤ (k : Int) := by omega
  have g1 : (k : Int) ≤ (x.cap : Int) := by omega
  rcases h with ⟨rfl, rfl⟩ | ⟨g, cur, ha, hbl, h1, h2, h3, h4⟩
  · obtain rfl : k = 0 := by omega
    exact ⟨none, 0, fun w => by go_simp, fun g h => by cases h⟩
  · obtain ⟨a, cap, bl⟩ := x
    simp only at ha h1 h2 h3 h4 h0 g1
    subst ha
    clear hbl h3 h4 h2
    by_cases hc : cap = 0
    · subst hc
      obtain rfl : k = 0 := by omega
      obtain rfl : n = 0 := by omega
      exact ⟨some ⟨g, 0, none⟩, 0, fun w => by go_simp, fun g' e h => absurd h (by decide)⟩
    · refine ⟨some ⟨g, 0, none⟩, cap, fun w => ?_, fun g' e _ => ?_⟩
      · go_simp
      · rw [Nat.zero_mul]; exact e
theorem cutN_high {x : GrN} {n k : Nat} {f : Nat → Nat} (h : GrNOk x n f) (hk : k ≤ n) : ∃ pa ca, (∀ w, (Instr.sliceAt 53 (.slice x.a n x.cap) (some (.int .i64 (k : Int))) none none).run Try.prog w = .ok (.slice pa (n - k) ca) w) ∧ ∀ g, x.a = some ⟨g, 0, none⟩ → 0 < n - k → pa = some ⟨g, k * 4, none⟩ := by
  have h0 := grN_cap h
  unfold maxLen at h0
  have g0 : 0 ≤ (k : Int) := by omega
  have g1 : (k : Int) ≤ (n : Int) := by omega
  have g2 : (n : Int) ≤ (x.cap : Int) := by omega
  rcases h with ⟨rfl, rfl⟩ | ⟨g, cur, ha, hbl, h1, h2, h3, h4⟩
  · obtain rfl : k = 0 := by omega
    exact ⟨none, 0, fun w => by go_simp, fun g h => by cases h⟩
  · obtain ⟨a, cap, bl⟩ := x
    simp only at ha h1 h2 h3 h4 h0 g2
    subst ha
    clear hbl h3 h4 h2
    by_cases hc : cap = k
    · subst hc
      obtain rfl : n = cap := by omega
      exact ⟨some ⟨g, 0, none⟩, 0, fun w => by go_simp, fun g' e h => absurd h (by omega)⟩
    · refine ⟨some ⟨g, k * 4, none⟩, cap - k, fun w => ?_, fun g' e _ => ?_⟩
      · go_simp
      · have := (Option.some.inj e); cases this; rfl
end Go.Proofs.Ytdmdkdodfngjiaa
