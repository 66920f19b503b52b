/- The walk of balefirelaw07.PrimesParts. -/
import Derived.Test.YthbcgcncoggagaaQPLeft
set_option linter.unusedVariables false
set_option linter.unusedSimpArgs false
namespace Go.Proofs.Ythbcgcncoggagaa
open Go.RowKit
attribute [local irreducible] Calls Instr.build Instr.buildSlice
theorem wpList_build2P {P : Program} {ops : Array Oper} {rest : List Oper} {o : Oper} {a : Act} {w : World} {Q : Exit → Act → World → Prop} (hg : o.guard = none) {t : TypeId} {x y : Operand} (hop : o.op = .build t #[(0, x), (1, y)]) {vx vy v : Value} (hx : ev a x = some vx) (hy : ev a y = some vy)
    (hrun : ∀ w, (Instr.build t #[(0, vx), (1, vy)]).run P w = .ok v w) (h : wpList P ops Q rest (a.put o.dst v) w) : wpList P ops Q (o :: rest) a w :=
  wpList_plain hg fun _ hK => by
    have hx := xBz hx
    have hy := xBz hy
    unfold Oper.wp execOp
    simp only [hop, List.map_toArray, List.map_cons, List.map_nil, hx, hy, hrun, Sem.run_bind, Result.andThen_ok, Sem.run_pure]
    exact hK _ _ h
theorem hd_loadKP {ops : Array Oper} {B0 : Nat} {w0 : World} {Kp : List (Nat × Obj)} {C : World → Prop} {ts : List Nat} {r acc : List Oper} {o : Oper} {a : Act} {K : List Oper → Act → Prop} (hw : Region.wanted o (yielded ops a.tmps) = true) {ty : TypeId} {x : Operand} (hop : o.op = .load ty x) {ad : Addr} (hx : a.eval x = .pointer (some ad)) {v : Value}
    (hrun : ∀ L w, Rep B0 w0 L w → (loadVar ty ad).run Try.prog w = .ok v w) {a' : Act} (ha : a.put o.dst v = a') (h : xBx Try.prog ops (keeps B0 w0 Kp) C K ts r acc a') : xBx Try.prog ops (keeps B0 w0 Kp) C K (1 :: ts) (o :: r) acc a :=
  hd_keep hw (fun L w hL hR => by
    unfold execOp
    simp only [hop, hx, Instr.loadAt, Instr.sureAddr, Sem.run_bind, Sem.run_pure, Result.andThen_ok, hrun L w hR]
    exact ⟨rfl, hR⟩) ha h
theorem hd_loadP {ops : Array Oper} {B0 : Nat} {w0 : World} {L : List (Nat × Obj)} {ts : List Nat} {r acc : List Oper} {o : Oper} {a : Act} {K : List Oper → Act → Prop} {I : (World → Prop) → Prop} (hw : Region.wanted o (yielded ops a.tmps) = true) {ty : TypeId} {x : Operand} (hop : o.op = .load ty x) {ad : Addr} (hx : a.eval x = .pointer (some ad)) {v : Value}
    (hrun : ∀ L w, Rep B0 w0 L w → (loadVar ty ad).run Try.prog w = .ok v w) {a' : Act} (ha : a.put o.dst v = a') (h : xBx Try.prog ops I (Rep B0 w0 L) K ts r acc a') : xBx Try.prog ops I (Rep B0 w0 L) K (0 :: ts) (o :: r) acc a :=
  hd_step hw (fun w hR => by
    unfold execOp
    simp only [hop, hx, Instr.loadAt, Instr.sureAddr, Sem.run_bind, Sem.run_pure, Result.andThen_ok, hrun L w hR]
    exact ⟨rfl, hR⟩) ha h
theorem num_load {w : World} {bb o n t : Nat} {v : Value} (h : w.rangeAt bb o (rrow n t v)) : (loadVar 24 ⟨bb, o, none⟩).run Try.prog w = .ok (num n) w := by
  obtain ⟨d, hu, hd, hi⟩ := (inferInstance : RowT Try.prog 24 4).is
  refine run_loadVar_mid w bb o 24 (nl n) d (fun j u hj => h j u ?_) hu hd (by rw [hi]; rfl)
  rw [← rr_n n t v, List.drop_zero, List.getElem?_take] at hj
  split at hj
  · exact hj
  · cases hj
theorem bare_at (B0 : Nat) (w0 : World) (L : List (Nat × Obj)) {n t : Nat} (hn : n < B) (ht : t < B) : RAt B0 w0 L (.node n t 0 fun _ => .leaf) (rrow n t (.slice none 0 0)) :=
  ⟨hn, ht, none, 0, fun _ => [], rfl, Nat.le_refl _, Nat.zero_le _, fun h => absurd rfl h, fun j hj => absurd hj (Nat.not_lt_zero j)⟩
theorem build_bare (n t : Nat) (w : World) : (Instr.build 53 #[(0, .agg (nl n).toArray), (1, .agg (nl t).toArray)]).run Try.prog w = .ok (.agg (rrow n t (.slice none 0 0)).toArray) w := build_r2 n t w
set_option maxRecDepth 100000 in
set_option maxHeartbeats 8000000 in
theorem pparts_walk (W : World) (l : List Value) (r : RT) (hr : RAt W.heap.size W [] r l) : Calls Try.prog 8 #[.agg l.toArray] W fun e w' =>
    e = .returned (.bool true) ∧ Below W.heap.size W w' := by
  have al := fun w => alive7_any w
  have hR := Rep.init W
  have cs := fun (L : List (Nat × Obj)) (w : World) (hR : Rep W.heap.size W L w) => rsize_any r (hr.any (L := L)) hR
  obtain ⟨y, hy⟩ : ∃ y, rszN r = y := ⟨_, rfl⟩
  rw [hy] at cs
  clear hy
  obtain ⟨yb, hyb⟩ : ∃ b, decide (20000 < y) = b := ⟨_, rfl⟩
  obtain ⟨n, t, k, p, rfl⟩ : ∃ m t k p, r = .node m t k p := by
    cases r with
    | leaf => exact hr.elim
    | node m t k p => exact ⟨m, t, k, p, rfl⟩
  obtain ⟨hnB, htB, pa, pc, V, rfl, hkc, hcm, hmem, hsub⟩ := hr
  have hr : RAt W.heap.size W [] (.node n t k p) (rrow n t (.slice pa k pc)) := ⟨hnB, htB, pa, pc, V, rfl, hkc, hcm, hmem, hsub⟩
  have tn := rr_n n t (.slice pa k pc)
  have tt := rr_t n t (.slice pa k pc)
  have ta := rr_v n t (.slice pa k pc)
  cases yb
  case true =>
    clear hr hmem hsub
    go_enter Try.func8, Try.ntmps8
    go_wp2_with (first | go_skip | (refine' xAg hR rfl rfl rfl ?_; clear hR; intro blk w hR) | (refine' xAb hR rfl rfl inferInstance ?_; clear hR; intro blk w hR) | (refine' xAf hR rfl rfl rfl inferInstance ?hm ?hn ?_; (case hm => first | with_reducible assumption | repeat (first | exact .head _ | with_reducible assumption | apply mC)); (case hn => first | rfl | simp)) | (refine' xAe hR rfl rfl rfl inferInstance ?hm ?hv ?hn ?_; (case hm => first | with_reducible assumption | repeat (first | exact .head _ | with_reducible assumption | apply mC)); (case hv => first | with_reducible assumption | (simp only [kC, kD, kE, kF]; try rfl)); (case hn => first | rfl | simp)) | (refine' xAc hR rfl rfl rfl inferInstance ?hm ?hv ?_; (case hm => first | with_reducible assumption | repeat (first | exact .head _ | with_reducible assumption | apply mC)); (case hv => first | rfl | with_reducible assumption)) | (refine' xAd hR rfl rfl rfl inferInstance rfl ?hs ?zone ?zvn ?hn ?_; (case hs => repeat (first | exact xAh.head | apply xAh.tail)); (case zone => first | rfl | with_reducible assumption); (case zvn => first | rfl | simp); (case hn => first | rfl | simp); clear hR; intro w hR) | (refine' xAa hR rfl rfl rfl inferInstance rfl rfl ?hs ?hn ?hl ?_; (case hs => repeat (first | exact xAh.head | apply xAh.tail)); (case hn => first | exact oD rfl | (show _ < 4; with_reducible assumption) | (simp; try omega)); (case hl => first | with_reducible assumption | (simp only [nl, kA, kB]; first | done | rfl) | rfl); clear hR; intro w hR) | (refine' xBa hR rfl rfl rfl inferInstance ?hm ?hn ?_; (case hm => first | with_reducible assumption | repeat (first | exact .head _ | with_reducible assumption | apply mC)); (case hn => first | rfl | simp)) | (refine' xAz hR rfl rfl rfl inferInstance ?hm ?hv ?_; (case hm => first | with_reducible assumption | repeat (first | exact .head _ | with_reducible assumption | apply mC)); (case hv => first | rfl | with_reducible assumption)) | (refine' xBi hR rfl rfl rfl inferInstance ?hm ?hv ?hn ?_; (case hm => first | with_reducible assumption | repeat (first | exact .head _ | with_reducible assumption | apply mC)); (case hv => first | with_reducible assumption | (simp only [kC, kD, kE, kF]; try rfl)); (case hn => first | rfl | simp)) | (go_at_call 31; refine (al _).mono ?_; rintro e w ⟨rfl, hb⟩; replace hR := hR.call hb; clear hb) | (go_at_call 26; refine (cs _ _ hR).mono ?_; clear hR; rintro e w ⟨rfl, hR⟩))
    go_ret
    exact ⟨rfl, hR.below⟩
  have hyb' : ¬ 20000 < y := of_decide_eq_false hyb
  by_cases hg : goodR (.node n t k p) ∧ cntR (.node n t k p) ≤ 32
  case neg =>
    have cc := fun (L : List (Nat × Obj)) (w : World) (hR : Rep W.heap.size W L w) => check_no (hr.any (L := L)) hg hR
    clear hg hr hmem hsub
    go_enter Try.func8, Try.ntmps8
    go_wp2_with (first | go_skip | (refine' xAg hR rfl rfl rfl ?_; clear hR; intro blk w hR) | (refine' xAb hR rfl rfl inferInstance ?_; clear hR; intro blk w hR) | (refine' xAf hR rfl rfl rfl inferInstance ?hm ?hn ?_; (case hm => first | with_reducible assumption | repeat (first | exact .head _ | with_reducible assumption | apply mC)); (case hn => first | rfl | simp)) | (refine' xAe hR rfl rfl rfl inferInstance ?hm ?hv ?hn ?_; (case hm => first | with_reducible assumption | repeat (first | exact .head _ | with_reducible assumption | apply mC)); (case hv => first | with_reducible assumption | (simp only [kC, kD, kE, kF]; try rfl)); (case hn => first | rfl | simp)) | (refine' xAc hR rfl rfl rfl inferInstance ?hm ?hv ?_; (case hm => first | with_reducible assumption | repeat (first | exact .head _ | with_reducible assumption | apply mC)); (case hv => first | rfl | with_reducible assumption)) | (refine' xAd hR rfl rfl rfl inferInstance rfl ?hs ?zone ?zvn ?hn ?_; (case hs => repeat (first | exact xAh.head | apply xAh.tail)); (case zone => first | rfl | with_reducible assumption); (case zvn => first | rfl | simp); (case hn => first | rfl | simp); clear hR; intro w hR) | (refine' xAa hR rfl rfl rfl inferInstance rfl rfl ?hs ?hn ?hl ?_; (case hs => repeat (first | exact xAh.head | apply xAh.tail)); (case hn => first | exact oD rfl | (show _ < 4; with_reducible assumption) | (simp; try omega)); (case hl => first | with_reducible assumption | (simp only [nl, kA, kB]; first | done | rfl) | rfl); clear hR; intro w hR) | (refine' xBa hR rfl rfl rfl inferInstance ?hm ?hn ?_; (case hm => first | with_reducible assumption | repeat (first | exact .head _ | with_reducible assumption | apply mC)); (case hn => first | rfl | simp)) | (refine' xAz hR rfl rfl rfl inferInstance ?hm ?hv ?_; (case hm => first | with_reducible assumption | repeat (first | exact .head _ | with_reducible assumption | apply mC)); (case hv => first | rfl | with_reducible assumption)) | (refine' xBi hR rfl rfl rfl inferInstance ?hm ?hv ?hn ?_; (case hm => first | with_reducible assumption | repeat (first | exact .head _ | with_reducible assumption | apply mC)); (case hv => first | with_reducible assumption | (simp only [kC, kD, kE, kF]; try rfl)); (case hn => first | rfl | simp)) | (go_at_call 31; refine (al _).mono ?_; rintro e w ⟨rfl, hb⟩; replace hR := hR.call hb; clear hb) | (go_at_call 26; refine (cs _ _ hR).mono ?_; clear hR; rintro e w ⟨rfl, hR⟩) | (go_at_call 28; refine (cc _ _ hR).mono ?_; clear hR; rintro e w ⟨rfl, hR⟩))
    go_ret
    exact ⟨rfl, hR.below⟩
  have cc := fun (L : List (Nat × Obj)) (w : World) (hR : Rep W.heap.size W L w) => check_yes (hr.any (L := L)) hg hR
  obtain ⟨hg, hcn⟩ := hg
  have hpr := good_pr _ hg
  have n2 : 2 ≤ n := hpr.1
  obtain ⟨n0, hn0⟩ : ∃ n, n = 0 := ⟨_, rfl⟩
  obtain ⟨n1, hn1⟩ : ∃ n, n = 1 := ⟨_, rfl⟩
  have o0 := o7_lit n0 0 (by omega) (by omega)
  have o1 := o7_lit n1 1 (by omega) (by omega)
  have L0 : n0 < B := lt_B (by omega)
  have L1 : n1 < B := lt_B (by omega)
  have e00 := eqN_self n0
  obtain ⟨ls, hls⟩ : ∃ x, n - 1 = x := ⟨_, rfl⟩
  have hlB : ls < B := by omega
  obtain ⟨bw, hbw⟩ : ∃ c : Int, bor (n : Int) (n1 : Int) = c := ⟨_, rfl⟩
  have s1 := s_lit (d := ls) (c := bw) hnB L1 (by rw [hn1, show n + B - 1 = ls + B by omega, Nat.add_mod_right, Nat.mod_eq_of_lt hlB]) hbw
  have cb := fun w => bits_any n hnB w
  have hkl : k < 32 := Nat.lt_of_lt_of_le (cntR_len n t k p) hcn
  -- what each part says
  have hpart : ∀ i, i < k → goodR (p i) ∧ cntR (p i) ≤ 32 ∧ (p i).num ∣ ls ∧ (0 < i → (p (i - 1)).num < (p i).num) := fun i hi => by
    rcases (good_node n t k p).1 hg with ⟨_, _, _, h⟩ | ⟨h1, _, h2, _⟩
    · omega
    · obtain ⟨g1, g2, g3⟩ := h2 i hi
      refine ⟨g1, by have := cntR_part n t k p hi; omega, ?_, fun h0 => by rcases g2 with h | h <;> omega⟩
      have p2 := (good_pr _ g1).1
      obtain ⟨e, he, hd, _⟩ := most_is p2 (show 0 < n - 1 by omega)
      rw [← hls]
      rw [he] at g3
      cases e with
      | zero => exact absurd (Nat.pow_zero _) g3
      | succ e => exact Nat.dvd_trans ⟨_, Nat.pow_succ'⟩ hd
  obtain ⟨sb, hsb⟩ : ∃ b, decide ((blen n : Int) ≤ 32) = b := ⟨_, rfl⟩
  have hsb' : sb = true ↔ n < 4294967296 := by
    rw [← hsb, decide_eq_true_iff]
    have := xBs n 32
    constructor
    · intro h; exact this.1 (by omega)
    · intro h; have := this.2 h; omega
  obtain ⟨qb, hqb⟩ : ∃ b, ((k : Int) == 0) = b := ⟨_, rfl⟩
  have hqb' : qb = true ↔ k = 0 := by rw [← hqb, beq_iff_eq]; omega
  obtain ⟨tb, htb⟩ : ∃ b, eqN t n0 = b := ⟨_, rfl⟩
  have htb' : tb = true ↔ t = 0 := by
    rw [← htb]
    by_cases h : t = n0
    · rw [eqN_yes h]; exact ⟨fun _ => by omega, fun _ => rfl⟩
    · rw [eqN_no htB L0 h]; exact ⟨fun h => (by cases h), fun h' => absurd (h'.trans hn0.symm) h⟩
  have hall : (sb = true ∧ qb = true ∧ tb = true ∧ goodR (.node n t 0 fun _ => .leaf)) ∨ (sb = false ∧ qb = false ∧ tb = false ∧ ¬ goodR (.node n t 0 fun _ => .leaf)) := by
    rcases (good_node n t k p).1 hg with ⟨h1, h2, h3, h4⟩ | ⟨h1, _, _, h2, h3, _⟩
    · exact .inl ⟨hsb'.2 h1, hqb'.2 h4, htb'.2 h3, (good_small h1).2 ⟨h2, h3, rfl⟩⟩
    · refine .inr ⟨?_, ?_, ?_, fun h => ?_⟩
      · cases h : sb
        · rfl
        · have := hsb'.1 h; omega
      · cases h : qb
        · rfl
        · have := hqb'.1 h
          subst this
          have e : facB (fun i => mostN (p i).num (n - 1)) 0 = 1 := rfl
          rw [e] at h2
          omega
      · cases h : tb
        · rfl
        · have := htb'.1 h; omega
      · have := ((good_big h1 hnB).1 h).2.1
        have e : facB (fun i => mostN ((fun _ => RT.leaf) i : RT).num (n - 1)) 0 = 1 := rfl
        rw [e] at this
        omega
  have g32 : decide ((k : Int) < 32) = true := decide_eq_true (by omega)
  have g32' : (k : Int) < 32 := by omega
  obtain ⟨gb, cbare, hgb⟩ : ∃ gb : Bool, (∀ (L : List (Nat × Obj)) (w : World), Rep W.heap.size W L w → Calls Try.prog 28 #[.agg (rrow n t (.slice none 0 0)).toArray] w fun e w' => e = .returned (.bool gb) ∧ Rep W.heap.size W L w') ∧ (gb = true ↔ goodR (.node n t 0 fun _ => .leaf)) := by
    by_cases h : goodR (.node n t 0 fun _ => .leaf)
    · exact ⟨true, fun L w hR => check_yes (bare_at _ _ L hnB htB) ⟨h, by show 1 + 0 ≤ 32; decide⟩ hR, fun _ => h, fun _ => rfl⟩
    · exact ⟨false, fun L w hR => check_no (bare_at _ _ L hnB htB) (fun h' => h h'.1) hR, fun h => (by cases h), fun h' => absurd h' h⟩
  have hfin : (sb = true ∧ qb = true ∧ tb = true ∧ gb = true) ∨ (sb = false ∧ qb = false ∧ tb = false ∧ gb = false) := by
    rcases hall with ⟨h1, h2, h3, h4⟩ | ⟨h1, h2, h3, h4⟩
    · exact .inl ⟨h1, h2, h3, hgb.2 h4⟩
    · refine .inr ⟨h1, h2, h3, ?_⟩
      cases h : gb
      · rfl
      · exact absurd (hgb.1 h) h4
  generalize (blen n : Int) = bl at *
  replace hmem := Held.mk hmem
  replace hsub := Held.mk hsub
  replace hpart := Held.mk hpart
  replace hfin := Held.mk hfin
  replace hn0 := Held.mk hn0
  clear hall hsb' hqb' htb' hgb hg hcn hpr hls hbw hn1 hr hkl
  go_enter Try.func8, Try.ntmps8
  go_upto_if 22 with (first | go_skip | (refine' xAg hR rfl rfl rfl ?_; clear hR; intro blk w hR) | (refine' xAb hR rfl rfl inferInstance ?_; clear hR; intro blk w hR) | (refine' xAf hR rfl rfl rfl inferInstance ?hm ?hn ?_; (case hm => first | with_reducible assumption | repeat (first | exact .head _ | with_reducible assumption | apply mC)); (case hn => first | rfl | simp)) | (refine' xAe hR rfl rfl rfl inferInstance ?hm ?hv ?hn ?_; (case hm => first | with_reducible assumption | repeat (first | exact .head _ | with_reducible assumption | apply mC)); (case hv => first | with_reducible assumption | (simp only [kC, kD, kE, kF]; try rfl)); (case hn => first | rfl | simp)) | (refine' xAc hR rfl rfl rfl inferInstance ?hm ?hv ?_; (case hm => first | with_reducible assumption | repeat (first | exact .head _ | with_reducible assumption | apply mC)); (case hv => first | rfl | with_reducible assumption)) | (refine' xAd hR rfl rfl rfl inferInstance rfl ?hs ?zone ?zvn ?hn ?_; (case hs => repeat (first | exact xAh.head | apply xAh.tail)); (case zone => first | rfl | with_reducible assumption); (case zvn => first | rfl | simp); (case hn => first | rfl | simp); clear hR; intro w hR) | (refine' xAa hR rfl rfl rfl inferInstance rfl rfl ?hs ?hn ?hl ?_; (case hs => repeat (first | exact xAh.head | apply xAh.tail)); (case hn => first | exact oD rfl | (show _ < 4; with_reducible assumption) | (simp; try omega)); (case hl => first | with_reducible assumption | (simp only [nl, kA, kB]; first | done | rfl) | rfl); clear hR; intro w hR) | (refine' xBa hR rfl rfl rfl inferInstance ?hm ?hn ?_; (case hm => first | with_reducible assumption | repeat (first | exact .head _ | with_reducible assumption | apply mC)); (case hn => first | rfl | simp)) | (refine' xAz hR rfl rfl rfl inferInstance ?hm ?hv ?_; (case hm => first | with_reducible assumption | repeat (first | exact .head _ | with_reducible assumption | apply mC)); (case hv => first | rfl | with_reducible assumption)) | (refine' xBi hR rfl rfl rfl inferInstance ?hm ?hv ?hn ?_; (case hm => first | with_reducible assumption | repeat (first | exact .head _ | with_reducible assumption | apply mC)); (case hv => first | with_reducible assumption | (simp only [kC, kD, kE, kF]; try rfl)); (case hn => first | rfl | simp)) | (go_at_call 31; refine (al _).mono ?_; rintro e w ⟨rfl, hb⟩; replace hR := hR.call hb; clear hb) | (go_at_call 26; refine (cs _ _ hR).mono ?_; clear hR; rintro e w ⟨rfl, hR⟩) | (go_at_call 28; refine (cc _ _ hR).mono ?_; clear hR; rintro e w ⟨rfl, hR⟩))
  go_wp2_with (first | (refine' xAg hR rfl rfl rfl ?_; clear hR; intro blk w hR) | (refine' xAb hR rfl rfl inferInstance ?_; clear hR; intro blk w hR) | (refine' xAf hR rfl rfl rfl inferInstance ?hm ?hn ?_; (case hm => first | with_reducible assumption | repeat (first | exact .head _ | with_reducible assumption | apply mC)); (case hn => first | rfl | simp)) | (refine' xAe hR rfl rfl rfl inferInstance ?hm ?hv ?hn ?_; (case hm => first | with_reducible assumption | repeat (first | exact .head _ | with_reducible assumption | apply mC)); (case hv => first | with_reducible assumption | (simp only [kC, kD, kE, kF]; try rfl)); (case hn => first | rfl | simp)) | (refine' xAc hR rfl rfl rfl inferInstance ?hm ?hv ?_; (case hm => first | with_reducible assumption | repeat (first | exact .head _ | with_reducible assumption | apply mC)); (case hv => first | rfl | with_reducible assumption)) | (refine' xAd hR rfl rfl rfl inferInstance rfl ?hs ?zone ?zvn ?hn ?_; (case hs => repeat (first | exact xAh.head | apply xAh.tail)); (case zone => first | rfl | with_reducible assumption); (case zvn => first | rfl | simp); (case hn => first | rfl | simp); clear hR; intro w hR) | (refine' xAa hR rfl rfl rfl inferInstance rfl rfl ?hs ?hn ?hl ?_; (case hs => repeat (first | exact xAh.head | apply xAh.tail)); (case hn => first | exact oD rfl | (show _ < 4; with_reducible assumption) | (simp; try omega)); (case hl => first | with_reducible assumption | (simp only [nl, kA, kB]; first | done | rfl) | rfl); clear hR; intro w hR) | fail)
  refine' xCd hR [1, 1, 1, 1, 1, 1, 1, 2, 2, 2] 7 3 _ _ [8, 9] xCe (by kernel_rfl) rfl rfl rfl rfl rfl (isAlloc rfl rfl ?z1) ?_
  case z1 => exact inferInstance
  intro K hK
  clear hR
  repeat ((first | (refine xBp ?_) | (refine' xAx (by decide) rfl (.inl rfl) rfl ?ha ?_) | (refine' xAx (by decide) rfl (.inr rfl) rfl ?ha ?_) | (refine' xAv rfl rfl rfl inferInstance ?hm ?hn ?ha ?_; (case hm => first | with_reducible assumption | repeat (first | exact .head _ | with_reducible assumption | apply mC)); (case hn => first | rfl | simp)) | (refine' xAs rfl rfl rfl inferInstance ?hm ?hv ?hn ?ha ?_; (case hm => first | with_reducible assumption | repeat (first | exact .head _ | with_reducible assumption | apply mC)); (case hv => first | with_reducible assumption | (simp only [kC, kD, kE, kF]; try rfl)); (case hn => first | rfl | simp)) | (refine' xAo rfl rfl rfl inferInstance ?hm ?hv ?ha ?_; (case hm => first | with_reducible assumption | repeat (first | exact .head _ | with_reducible assumption | apply mC)); (case hv => first | rfl | with_reducible assumption)) | (refine' hd_keepAll rfl rfl rfl inferInstance ?hm ?hn ?ha ?_; (case hm => first | with_reducible assumption | repeat (first | exact .head _ | with_reducible assumption | apply mC)); (case hn => first | rfl | simp)) | (refine' xAr rfl rfl rfl inferInstance ?hm ?hv ?hn ?ha ?_; (case hm => first | with_reducible assumption | repeat (first | exact .head _ | with_reducible assumption | apply mC)); (case hv => first | with_reducible assumption | (simp only [kC, kD, kE, kF]; try rfl)); (case hn => first | rfl | simp)) | (refine' xAq rfl rfl rfl inferInstance ?hm ?hv ?ha ?_; (case hm => first | with_reducible assumption | repeat (first | exact .head _ | with_reducible assumption | apply mC)); (case hv => first | rfl | with_reducible assumption)) | ((first | refine' xAk (by decide) rfl rfl rfl rfl (fun w => ?hq) ?ha ?_ | refine' xBh (by decide) rfl rfl rfl rfl (fun w => ?hq) ?ha ?_ | refine' xAu (by decide) rfl rfl rfl (fun w => ?hq) ?ha ?_ | refine' xAj (by decide) rfl rfl rfl (fun w => ?hq) ?ha ?_ | refine' xAw (by decide) rfl rfl rfl (fun w => ?hq) ?ha ?_ | refine' xBg (by decide) rfl rfl rfl rfl (fun w => ?hq) ?ha ?_ | refine' xBe (by decide) rfl rfl rfl rfl rfl rfl (fun w => ?hq) ?ha ?_ | refine' xBd (by decide) rfl rfl (fun w => ?hq) ?ha ?_ | refine' xAt (by decide) rfl rfl rfl (fun w => ?hq) ?ha ?_ | refine' xBf (by decide) rfl rfl rfl (fun w => ?hq) ?ha ?_); (case hq => go_simp; try rfl)) | (refine' xAn (by decide) rfl rfl rfl ?ha ?_) | (refine' xBo (by decide) rfl rfl rfl rfl ?ha ?_) | (refine' xBn (by decide) rfl ?ha ?_) | (refine' xCg rfl rfl rfl (xBj Try.func32 (by kernel_rfl) (by kernel_rfl) _) (fun w => o1 w) ?ha ?_) | (refine' xCg rfl rfl rfl (xBj Try.func36 (by kernel_rfl) (by kernel_rfl) _) (fun w => s1 w) ?ha ?_)); try (case ha => simp only [kP, kQ, kA, kB]; try rfl))
  try simp only [List.nil_append, List.cons_append]
  refine xBt (hK _ _ (fun _ => ?_))
  clear hK K
  refine xBv (fun Q hQ => ?_)
  simp only [kP, kQ, kA, kB]
  repeat ((first | refine' xAy rfl (.inl rfl) rfl ?hk ?ha ?_ | refine' xAy rfl (.inr rfl) rfl ?hk ?ha ?_ | (refine' xAp rfl rfl rfl inferInstance rfl ?hs rfl rfl ?hn ?hk ?ha ?_; (case hs => repeat (first | exact xAh.head | apply xAh.tail)); (case hn => first | rfl | simp)) | (refine' xAi rfl rfl rfl inferInstance rfl rfl ?hs ?hn ?hl ?hk ?ha ?_; (case hs => repeat (first | exact xAh.head | apply xAh.tail)); (case hn => first | exact oD rfl | (show _ < 4; with_reducible assumption) | (simp; try omega)); (case hl => first | with_reducible assumption | (simp only [nl, kA, kB]; first | done | rfl) | rfl)) | (refine' xAm rfl rfl rfl inferInstance rfl rfl ?hvn ?hs ?hn ?hl ?hk ?ha ?_; (case hvn => first | rfl | simp); (case hs => repeat (first | exact xAh.head | apply xAh.tail)); (case hn => first | exact oD rfl | (show _ < 4; with_reducible assumption) | (simp; try omega)); (case hl => first | with_reducible assumption | (simp only [nl, kA, kB]; first | done | rfl) | rfl)) | (refine' xBl rfl (fun w => ?hq) ?hk ?ha ?_; (case hq => go_simp; try rfl))); (case hk => intro p hp; repeat (first | exact hp | apply mT)); (case ha => simp only [kP, kQ, kA, kB]; try rfl))
  refine xBu (fun w hR => hQ _ _ ?_)
  clear hQ Q
  go_wp2_with (first | (refine' xAg hR rfl rfl rfl ?_; clear hR; intro blk w hR) | (refine' xAb hR rfl rfl inferInstance ?_; clear hR; intro blk w hR) | (refine' xAf hR rfl rfl rfl inferInstance ?hm ?hn ?_; (case hm => first | with_reducible assumption | repeat (first | exact .head _ | with_reducible assumption | apply mC)); (case hn => first | rfl | simp)) | (refine' xAe hR rfl rfl rfl inferInstance ?hm ?hv ?hn ?_; (case hm => first | with_reducible assumption | repeat (first | exact .head _ | with_reducible assumption | apply mC)); (case hv => first | with_reducible assumption | (simp only [kC, kD, kE, kF]; try rfl)); (case hn => first | rfl | simp)) | (refine' xAc hR rfl rfl rfl inferInstance ?hm ?hv ?_; (case hm => first | with_reducible assumption | repeat (first | exact .head _ | with_reducible assumption | apply mC)); (case hv => first | rfl | with_reducible assumption)) | (refine' xAd hR rfl rfl rfl inferInstance rfl ?hs ?zone ?zvn ?hn ?_; (case hs => repeat (first | exact xAh.head | apply xAh.tail)); (case zone => first | rfl | with_reducible assumption); (case zvn => first | rfl | simp); (case hn => first | rfl | simp); clear hR; intro w hR) | (refine' xAa hR rfl rfl rfl inferInstance rfl rfl ?hs ?hn ?hl ?_; (case hs => repeat (first | exact xAh.head | apply xAh.tail)); (case hn => first | exact oD rfl | (show _ < 4; with_reducible assumption) | (simp; try omega)); (case hl => first | with_reducible assumption | (simp only [nl, kA, kB]; first | done | rfl) | rfl); clear hR; intro w hR) | fail)
  clear cs cc al s1
  try simp only [Act.put, kA, kB, List.setIfInBounds_toArray]
  refine' loop_whileC hR (false :: false :: false :: false :: false :: false :: true :: true :: true :: false :: false :: false :: false :: false :: false :: false :: false :: false :: false :: false :: false :: false :: false :: false :: false :: false :: false :: false :: false :: false :: false :: true :: true :: true :: true :: true :: true :: true :: true :: true :: true :: true :: true :: true :: true :: true :: true :: true :: true :: true :: true :: true :: true :: true :: true :: true :: true :: true :: true :: true :: true :: true :: true :: true :: true :: true :: true :: true :: true :: true :: true :: true :: true :: true :: true :: true :: true :: true :: true :: true :: true :: true :: true :: true :: true :: true :: true :: false :: false :: false :: false :: false :: false :: false :: false :: false :: false :: false :: false :: false :: false :: false :: false :: false :: false :: false :: false :: false :: false :: false :: false :: false :: false :: false :: false :: false :: false :: false :: false :: false :: false :: false :: []) (fun (i : Nat) l => l.set 5 (.int .i64 (i : Int))) (fun i => k - i) (fun i => i ≤ k) 0 ?h0 ?hO ?hs
  case h0 => exact xBq rfl rfl rfl
  case hO => exact Nat.zero_le _
  case hs =>
    clear hR
    intro i tm w hi ht hR K hK
    have g0 : 0 ≤ (i : Int) := by omega
    by_cases hik : i = k
    · have t1 : ¬ (i : Int) < (k : Int) := by omega
      have t1' : decide ((i : Int) < (k : Int)) = false := decide_eq_false t1
      clear hK hik hi hmem hsub hpart
      rcases hfin.out with ⟨rfl, rfl, rfl, rfl⟩ | ⟨rfl, rfl, rfl, rfl⟩
      all_goals
        clear hfin
        repeat (first | (obtain ⟨x, tm', e, ht'⟩ := xBk ht; clear ht; subst e; have ht := ht'; clear ht') | (obtain ⟨tm', e, ht'⟩ := xBc ht; clear ht; subst e; have ht := ht'; clear ht'))
        obtain rfl := xBm ht
        clear ht
        go_wp2_with (first | (refine' xAg hR rfl rfl rfl ?_; clear hR; intro blk w hR) | (refine' xAb hR rfl rfl inferInstance ?_; clear hR; intro blk w hR) | (refine' xAf hR rfl rfl rfl inferInstance ?hm ?hn ?_; (case hm => first | with_reducible assumption | repeat (first | exact .head _ | with_reducible assumption | apply mC)); (case hn => first | rfl | simp)) | (refine' xAe hR rfl rfl rfl inferInstance ?hm ?hv ?hn ?_; (case hm => first | with_reducible assumption | repeat (first | exact .head _ | with_reducible assumption | apply mC)); (case hv => first | with_reducible assumption | (simp only [kC, kD, kE, kF]; try rfl)); (case hn => first | rfl | simp)) | (refine' xAc hR rfl rfl rfl inferInstance ?hm ?hv ?_; (case hm => first | with_reducible assumption | repeat (first | exact .head _ | with_reducible assumption | apply mC)); (case hv => first | rfl | with_reducible assumption)) | (refine' xAd hR rfl rfl rfl inferInstance rfl ?hs ?zone ?zvn ?hn ?_; (case hs => repeat (first | exact xAh.head | apply xAh.tail)); (case zone => first | rfl | with_reducible assumption); (case zvn => first | rfl | simp); (case hn => first | rfl | simp); clear hR; intro w hR) | (refine' xAa hR rfl rfl rfl inferInstance rfl rfl ?hs ?hn ?hl ?_; (case hs => repeat (first | exact xAh.head | apply xAh.tail)); (case hn => first | exact oD rfl | (show _ < 4; with_reducible assumption) | (simp; try omega)); (case hl => first | with_reducible assumption | (simp only [nl, kA, kB]; first | done | rfl) | rfl); clear hR; intro w hR) | (go_at_call 34; refine (cb _).mono ?_; rintro e w ⟨rfl, hb⟩; replace hR := hR.call hb; clear hb) | (refine' wpList_build2P rfl rfl rfl rfl (build_bare _ _) ?_))
        refine xAl hR [0, 0, 0, 0, 0, 0, 0, 0, 0, 0, 0, 0, 0, 0, 0, 0, 0, 0, 0, 0, 0, 0, 0, 0, 0, 0, 2] [] xCe (by kernel_rfl) rfl rfl (fun K hK => ?_)
        clear hR
        repeat ((first | (refine xBp ?_) | (refine' xAx (by decide) rfl (.inl rfl) rfl ?ha ?_) | (refine' xAx (by decide) rfl (.inr rfl) rfl ?ha ?_) | (refine' xAv rfl rfl rfl inferInstance ?hm ?hn ?ha ?_; (case hm => first | with_reducible assumption | repeat (first | exact .head _ | with_reducible assumption | apply mC)); (case hn => first | rfl | simp)) | (refine' xAs rfl rfl rfl inferInstance ?hm ?hv ?hn ?ha ?_; (case hm => first | with_reducible assumption | repeat (first | exact .head _ | with_reducible assumption | apply mC)); (case hv => first | with_reducible assumption | (simp only [kC, kD, kE, kF]; try rfl)); (case hn => first | rfl | simp)) | (refine' xAo rfl rfl rfl inferInstance ?hm ?hv ?ha ?_; (case hm => first | with_reducible assumption | repeat (first | exact .head _ | with_reducible assumption | apply mC)); (case hv => first | rfl | with_reducible assumption)) | (refine' xAr rfl rfl rfl inferInstance ?hm ?hv ?hn ?ha ?_; (case hm => first | with_reducible assumption | repeat (first | exact .head _ | with_reducible assumption | apply mC)); (case hv => first | with_reducible assumption | (simp only [kC, kD, kE, kF]; try rfl)); (case hn => first | rfl | simp)) | (refine' xAq rfl rfl rfl inferInstance ?hm ?hv ?ha ?_; (case hm => first | with_reducible assumption | repeat (first | exact .head _ | with_reducible assumption | apply mC)); (case hv => first | rfl | with_reducible assumption)) | ((first | refine' xAk (by decide) rfl rfl rfl rfl (fun w => ?hq) ?ha ?_ | refine' xBh (by decide) rfl rfl rfl rfl (fun w => ?hq) ?ha ?_ | refine' xAu (by decide) rfl rfl rfl (fun w => ?hq) ?ha ?_ | refine' xAj (by decide) rfl rfl rfl (fun w => ?hq) ?ha ?_ | refine' xAw (by decide) rfl rfl rfl (fun w => ?hq) ?ha ?_ | refine' xBg (by decide) rfl rfl rfl rfl (fun w => ?hq) ?ha ?_ | refine' xBe (by decide) rfl rfl rfl rfl rfl rfl (fun w => ?hq) ?ha ?_ | refine' xBd (by decide) rfl rfl (fun w => ?hq) ?ha ?_ | refine' xAt (by decide) rfl rfl rfl (fun w => ?hq) ?ha ?_ | refine' xBf (by decide) rfl rfl rfl (fun w => ?hq) ?ha ?_); (case hq => go_simp; try rfl)) | (refine' xAn (by decide) rfl rfl rfl ?ha ?_) | (refine' xBo (by decide) rfl rfl rfl rfl ?ha ?_) | (refine' xBn (by decide) rfl ?ha ?_) | (refine' xBb rfl rfl rfl (xBj Try.func32 (by kernel_rfl) (by kernel_rfl) _) (fun w => o0 w) ?ha ?_) | (refine' hd_callR rfl rfl rfl (xBj Try.func28 (by kernel_rfl) (by kernel_rfl) _) (fun w hw => cbare _ w hw) ?ha ?_) | (refine' xCc (by decide) rfl (fun w => ?hq) ?ha ?_; (case hq => simp only [execOp]; go_simp; try rfl); (case ha => simp only [kP, kQ, kA, kB]; try rfl))); try (case ha => simp only [kP, kQ, kA, kB]; try rfl))
        refine xBt (hK _ _ ?_)
        clear hK K
        refine xBv (fun Q hQ => ?_)
        try simp only [List.nil_append, List.cons_append]
        repeat ((first | refine' xAy rfl (.inl rfl) rfl ?hk ?ha ?_ | refine' xAy rfl (.inr rfl) rfl ?hk ?ha ?_ | (refine' xAp rfl rfl rfl inferInstance rfl ?hs rfl rfl ?hn ?hk ?ha ?_; (case hs => repeat (first | exact xAh.head | apply xAh.tail)); (case hn => first | rfl | simp)) | (refine' xAi rfl rfl rfl inferInstance rfl rfl ?hs ?hn ?hl ?hk ?ha ?_; (case hs => repeat (first | exact xAh.head | apply xAh.tail)); (case hn => first | exact oD rfl | (show _ < 4; with_reducible assumption) | (simp; try omega)); (case hl => first | with_reducible assumption | (simp only [nl, kA, kB]; first | done | rfl) | rfl)) | (refine' xAm rfl rfl rfl inferInstance rfl rfl ?hvn ?hs ?hn ?hl ?hk ?ha ?_; (case hvn => first | rfl | simp); (case hs => repeat (first | exact xAh.head | apply xAh.tail)); (case hn => first | exact oD rfl | (show _ < 4; with_reducible assumption) | (simp; try omega)); (case hl => first | with_reducible assumption | (simp only [nl, kA, kB]; first | done | rfl) | rfl)) | (refine' xBl rfl (fun w => ?hq) ?hk ?ha ?_; (case hq => go_simp; try rfl))); (case hk => intro p hp; first | exact absurd hp List.not_mem_nil | (obtain rfl := List.mem_singleton.1 hp; repeat (first | exact List.Mem.head _ | with_reducible assumption | apply mC))); (case ha => simp only [kP, kQ, kA, kB]; try rfl))
        refine xBu (fun w hR => hQ _ _ ?_)
        clear hQ Q
        go_wp2_with (first | (refine' xAg hR rfl rfl rfl ?_; clear hR; intro blk w hR) | (refine' xAb hR rfl rfl inferInstance ?_; clear hR; intro blk w hR) | (refine' xAf hR rfl rfl rfl inferInstance ?hm ?hn ?_; (case hm => first | with_reducible assumption | repeat (first | exact .head _ | with_reducible assumption | apply mC)); (case hn => first | rfl | simp)) | (refine' xAe hR rfl rfl rfl inferInstance ?hm ?hv ?hn ?_; (case hm => first | with_reducible assumption | repeat (first | exact .head _ | with_reducible assumption | apply mC)); (case hv => first | with_reducible assumption | (simp only [kC, kD, kE, kF]; try rfl)); (case hn => first | rfl | simp)) | (refine' xAc hR rfl rfl rfl inferInstance ?hm ?hv ?_; (case hm => first | with_reducible assumption | repeat (first | exact .head _ | with_reducible assumption | apply mC)); (case hv => first | rfl | with_reducible assumption)) | (refine' xAd hR rfl rfl rfl inferInstance rfl ?hs ?zone ?zvn ?hn ?_; (case hs => repeat (first | exact xAh.head | apply xAh.tail)); (case zone => first | rfl | with_reducible assumption); (case zvn => first | rfl | simp); (case hn => first | rfl | simp); clear hR; intro w hR) | (refine' xAa hR rfl rfl rfl inferInstance rfl rfl ?hs ?hn ?hl ?_; (case hs => repeat (first | exact xAh.head | apply xAh.tail)); (case hn => first | exact oD rfl | (show _ < 4; with_reducible assumption) | (simp; try omega)); (case hl => first | with_reducible assumption | (simp only [nl, kA, kB]; first | done | rfl) | rfl); clear hR; intro w hR) | fail)
        go_ret
        exact ⟨rfl, hR.below⟩
    · have hik' : i < k := by omega
      have gi : (i : Int) < (k : Int) := by omega
      have gi' : decide ((i : Int) < (k : Int)) = true := decide_eq_true gi
      obtain ⟨bb, off, rfl, hmr⟩ := hmem.out (by omega)
      have hsi := hsub.out i hik'
      obtain ⟨gp, cp, dp, rp⟩ := hpart.out i hik'
      obtain ⟨ti, ai, ki, ci, hVi, hiB, htiB⟩ := hsi.row
      have rl : ∀ (L : List (Nat × Obj)) (w : World), Rep W.heap.size W L w → w.rangeAt bb (off + i * 9) (V i) := fun L w hR => hmr w (hR.weaken (List.nil_sublist _)) i hik'
      have p2 := (good_pr _ gp).1
      rw [hVi] at rl hsi
      obtain ⟨ni, hni⟩ : ∃ x, (p i).num = x := ⟨_, rfl⟩
      rw [hni] at rl hsi hiB dp p2
      have r7 := fun (L : List (Nat × Obj)) (w : World) (hR : Rep W.heap.size W L w) => num_load (rl L w hR)
      have r9 := fun (L : List (Nat × Obj)) (w : World) (hR : Rep W.heap.size W L w) => reason_load (rl L w hR) rfl
      have ck := fun (L : List (Nat × Obj)) (w : World) (hR : Rep W.heap.size W L w) => check_yes (hsi.any (L := L)) ⟨gp, cp⟩ hR
      obtain ⟨q, hq⟩ : ∃ q, quo0 ls ni = q := ⟨_, rfl⟩
      have nz : ni ≠ 0 := by omega
      have d1 := d_lit (e := 0) hlB hiB hq (show rem0 ls ni = n0 by rw [rem0_pos nz, Nat.mod_eq_zero_of_dvd dp, hn0.out]) (if_neg nz)
      have ei : IntKind.i64.wrap ((i : Int) + 1) = (i : Int) + 1 := by rw [IntKind.wrap_i64]; unfold maxLen at hcm; omega
      have ek : ((i + 1 : Nat) : Int) = (i : Int) + 1 := by omega
      have hi1 : i + 1 ≤ k := by omega
      have hmu : k - (i + 1) < k - i := by omega
      replace ek := Held.mk ek
      replace hi1 := Held.mk hi1
      replace hmu := Held.mk hmu
      by_cases hi0 : i = 0
      · have c0 : decide (0 < (i : Int)) = false := decide_eq_false (by omega)
        have c0' : ¬ 0 < (i : Int) := of_decide_eq_false c0
        have c2 : decide (0 < i) = false := decide_eq_false (by omega)
        have c2' : ¬ 0 < i := of_decide_eq_false c2
        clear hmr hsi gp cp dp rp hVi rl hni hq nz hi hik hik' hpart hmem hsub hfin p2 cb hi0 cbare
        repeat (first | (obtain ⟨x, tm', e, ht'⟩ := xBk ht; clear ht; subst e; have ht := ht'; clear ht') | (obtain ⟨tm', e, ht'⟩ := xBc ht; clear ht; subst e; have ht := ht'; clear ht'))
        obtain rfl := xBm ht
        clear ht
        go_wp2_with (first | (refine' xAg hR rfl rfl rfl ?_; clear hR; intro blk w hR) | (refine' xAb hR rfl rfl inferInstance ?_; clear hR; intro blk w hR) | (refine' xAf hR rfl rfl rfl inferInstance ?hm ?hn ?_; (case hm => first | with_reducible assumption | repeat (first | exact .head _ | with_reducible assumption | apply mC)); (case hn => first | rfl | simp)) | (refine' xAe hR rfl rfl rfl inferInstance ?hm ?hv ?hn ?_; (case hm => first | with_reducible assumption | repeat (first | exact .head _ | with_reducible assumption | apply mC)); (case hv => first | with_reducible assumption | (simp only [kC, kD, kE, kF]; try rfl)); (case hn => first | rfl | simp)) | (refine' xAc hR rfl rfl rfl inferInstance ?hm ?hv ?_; (case hm => first | with_reducible assumption | repeat (first | exact .head _ | with_reducible assumption | apply mC)); (case hv => first | rfl | with_reducible assumption)) | (refine' xAd hR rfl rfl rfl inferInstance rfl ?hs ?zone ?zvn ?hn ?_; (case hs => repeat (first | exact xAh.head | apply xAh.tail)); (case zone => first | rfl | with_reducible assumption); (case zvn => first | rfl | simp); (case hn => first | rfl | simp); clear hR; intro w hR) | (refine' xAa hR rfl rfl rfl inferInstance rfl rfl ?hs ?hn ?hl ?_; (case hs => repeat (first | exact xAh.head | apply xAh.tail)); (case hn => first | exact oD rfl | (show _ < 4; with_reducible assumption) | (simp; try omega)); (case hl => first | with_reducible assumption | (simp only [nl, kA, kB]; first | done | rfl) | rfl); clear hR; intro w hR) | fail)
        refine' wp_region_alloc2 hR [1, 1, 1, 1, 1, 1, 1, 1, 1, 1, 1, 1, 2, 2, 2, 2, 2] 12 13 6 7 _ _ _ _ [14, 15, 16] xCe (by kernel_rfl) rfl rfl rfl rfl rfl rfl rfl (by decide) (isAlloc rfl rfl ?z1) (isAlloc rfl rfl ?z2) ?_
        case z1 => exact inferInstance
        case z2 => exact inferInstance
        intro K hK
        clear hR
        repeat ((first | (refine' hd_loadKP rfl rfl rfl r7 ?ha ?_) | (refine xBp ?_) | (refine' xAx (by decide) rfl (.inl rfl) rfl ?ha ?_) | (refine' xAx (by decide) rfl (.inr rfl) rfl ?ha ?_) | (refine' xAv rfl rfl rfl inferInstance ?hm ?hn ?ha ?_; (case hm => first | with_reducible assumption | repeat (first | exact .head _ | with_reducible assumption | apply mC)); (case hn => first | rfl | simp)) | (refine' xAs rfl rfl rfl inferInstance ?hm ?hv ?hn ?ha ?_; (case hm => first | with_reducible assumption | repeat (first | exact .head _ | with_reducible assumption | apply mC)); (case hv => first | with_reducible assumption | (simp only [kC, kD, kE, kF]; try rfl)); (case hn => first | rfl | simp)) | (refine' xAo rfl rfl rfl inferInstance ?hm ?hv ?ha ?_; (case hm => first | with_reducible assumption | repeat (first | exact .head _ | with_reducible assumption | apply mC)); (case hv => first | rfl | with_reducible assumption)) | (refine' hd_keepAll rfl rfl rfl inferInstance ?hm ?hn ?ha ?_; (case hm => first | with_reducible assumption | repeat (first | exact .head _ | with_reducible assumption | apply mC)); (case hn => first | rfl | simp)) | (refine' xAr rfl rfl rfl inferInstance ?hm ?hv ?hn ?ha ?_; (case hm => first | with_reducible assumption | repeat (first | exact .head _ | with_reducible assumption | apply mC)); (case hv => first | with_reducible assumption | (simp only [kC, kD, kE, kF]; try rfl)); (case hn => first | rfl | simp)) | (refine' xAq rfl rfl rfl inferInstance ?hm ?hv ?ha ?_; (case hm => first | with_reducible assumption | repeat (first | exact .head _ | with_reducible assumption | apply mC)); (case hv => first | rfl | with_reducible assumption)) | ((first | refine' xAk (by decide) rfl rfl rfl rfl (fun w => ?hq) ?ha ?_ | refine' xBh (by decide) rfl rfl rfl rfl (fun w => ?hq) ?ha ?_ | refine' xAu (by decide) rfl rfl rfl (fun w => ?hq) ?ha ?_ | refine' xAj (by decide) rfl rfl rfl (fun w => ?hq) ?ha ?_ | refine' xAw (by decide) rfl rfl rfl (fun w => ?hq) ?ha ?_ | refine' xBg (by decide) rfl rfl rfl rfl (fun w => ?hq) ?ha ?_ | refine' xBe (by decide) rfl rfl rfl rfl rfl rfl (fun w => ?hq) ?ha ?_ | refine' xBd (by decide) rfl rfl (fun w => ?hq) ?ha ?_ | refine' xAt (by decide) rfl rfl rfl (fun w => ?hq) ?ha ?_ | refine' xBf (by decide) rfl rfl rfl (fun w => ?hq) ?ha ?_); (case hq => go_simp; try rfl)) | (refine' xAn (by decide) rfl rfl rfl ?ha ?_) | (refine' xBo (by decide) rfl rfl rfl rfl ?ha ?_) | (refine' xBn (by decide) rfl ?ha ?_) | (refine' xCg rfl rfl rfl (xBj Try.func37 (by kernel_rfl) (by kernel_rfl) _) (fun w => d1 w) ?ha ?_)); try (case ha => simp only [kP, kQ, kA, kB]; try rfl))
        try simp only [List.nil_append, List.cons_append]
        refine xBt (hK _ _ (fun _ _ => ?_))
        clear hK K
        refine xBv (fun Q hQ => ?_)
        simp only [kP, kQ, kA, kB]
        repeat ((first | refine' xAy rfl (.inl rfl) rfl ?hk ?ha ?_ | refine' xAy rfl (.inr rfl) rfl ?hk ?ha ?_ | (refine' xAp rfl rfl rfl inferInstance rfl ?hs rfl rfl ?hn ?hk ?ha ?_; (case hs => repeat (first | exact xAh.head | apply xAh.tail)); (case hn => first | rfl | simp)) | (refine' xAi rfl rfl rfl inferInstance rfl rfl ?hs ?hn ?hl ?hk ?ha ?_; (case hs => repeat (first | exact xAh.head | apply xAh.tail)); (case hn => first | exact oD rfl | (show _ < 4; with_reducible assumption) | (simp; try omega)); (case hl => first | with_reducible assumption | (simp only [nl, kA, kB]; first | done | rfl) | rfl)) | (refine' xAm rfl rfl rfl inferInstance rfl rfl ?hvn ?hs ?hn ?hl ?hk ?ha ?_; (case hvn => first | rfl | simp); (case hs => repeat (first | exact xAh.head | apply xAh.tail)); (case hn => first | exact oD rfl | (show _ < 4; with_reducible assumption) | (simp; try omega)); (case hl => first | with_reducible assumption | (simp only [nl, kA, kB]; first | done | rfl) | rfl)) | (refine' xBl rfl (fun w => ?hq) ?hk ?ha ?_; (case hq => go_simp; try rfl))); (case hk => intro p hp; repeat (first | exact hp | apply mT)); (case ha => simp only [kP, kQ, kA, kB]; try rfl))
        refine xBu (fun w hR => hQ _ _ ?_)
        clear hQ Q
        go_wp2_with (first | (refine' xAg hR rfl rfl rfl ?_; clear hR; intro blk w hR) | (refine' xAb hR rfl rfl inferInstance ?_; clear hR; intro blk w hR) | (refine' xAf hR rfl rfl rfl inferInstance ?hm ?hn ?_; (case hm => first | with_reducible assumption | repeat (first | exact .head _ | with_reducible assumption | apply mC)); (case hn => first | rfl | simp)) | (refine' xAe hR rfl rfl rfl inferInstance ?hm ?hv ?hn ?_; (case hm => first | with_reducible assumption | repeat (first | exact .head _ | with_reducible assumption | apply mC)); (case hv => first | with_reducible assumption | (simp only [kC, kD, kE, kF]; try rfl)); (case hn => first | rfl | simp)) | (refine' xAc hR rfl rfl rfl inferInstance ?hm ?hv ?_; (case hm => first | with_reducible assumption | repeat (first | exact .head _ | with_reducible assumption | apply mC)); (case hv => first | rfl | with_reducible assumption)) | (refine' xAd hR rfl rfl rfl inferInstance rfl ?hs ?zone ?zvn ?hn ?_; (case hs => repeat (first | exact xAh.head | apply xAh.tail)); (case zone => first | rfl | with_reducible assumption); (case zvn => first | rfl | simp); (case hn => first | rfl | simp); clear hR; intro w hR) | (refine' xAa hR rfl rfl rfl inferInstance rfl rfl ?hs ?hn ?hl ?_; (case hs => repeat (first | exact xAh.head | apply xAh.tail)); (case hn => first | exact oD rfl | (show _ < 4; with_reducible assumption) | (simp; try omega)); (case hl => first | with_reducible assumption | (simp only [nl, kA, kB]; first | done | rfl) | rfl); clear hR; intro w hR) | fail)
        refine xAl hR [0, 0, 0, 0, 0, 0, 0, 0, 0, 0, 0, 0, 0, 0, 0, 0, 0, 0, 0, 0, 0, 0, 0, 0, 0, 0, 0, 0, 0, 0, 0, 0, 0, 0, 0, 0, 0] [] xCe (by kernel_rfl) rfl rfl (fun K hK => ?_)
        clear hR
        repeat ((first | (refine' hd_loadP rfl rfl rfl r9 ?ha ?_) | (refine' hd_loadP rfl rfl rfl r7 ?ha ?_) | (refine xBp ?_) | (refine' xAx (by decide) rfl (.inl rfl) rfl ?ha ?_) | (refine' xAx (by decide) rfl (.inr rfl) rfl ?ha ?_) | (refine' xAv rfl rfl rfl inferInstance ?hm ?hn ?ha ?_; (case hm => first | with_reducible assumption | repeat (first | exact .head _ | with_reducible assumption | apply mC)); (case hn => first | rfl | simp)) | (refine' xAs rfl rfl rfl inferInstance ?hm ?hv ?hn ?ha ?_; (case hm => first | with_reducible assumption | repeat (first | exact .head _ | with_reducible assumption | apply mC)); (case hv => first | with_reducible assumption | (simp only [kC, kD, kE, kF]; try rfl)); (case hn => first | rfl | simp)) | (refine' xAo rfl rfl rfl inferInstance ?hm ?hv ?ha ?_; (case hm => first | with_reducible assumption | repeat (first | exact .head _ | with_reducible assumption | apply mC)); (case hv => first | rfl | with_reducible assumption)) | (refine' xAr rfl rfl rfl inferInstance ?hm ?hv ?hn ?ha ?_; (case hm => first | with_reducible assumption | repeat (first | exact .head _ | with_reducible assumption | apply mC)); (case hv => first | with_reducible assumption | (simp only [kC, kD, kE, kF]; try rfl)); (case hn => first | rfl | simp)) | (refine' xAq rfl rfl rfl inferInstance ?hm ?hv ?ha ?_; (case hm => first | with_reducible assumption | repeat (first | exact .head _ | with_reducible assumption | apply mC)); (case hv => first | rfl | with_reducible assumption)) | ((first | refine' xAk (by decide) rfl rfl rfl rfl (fun w => ?hq) ?ha ?_ | refine' xBh (by decide) rfl rfl rfl rfl (fun w => ?hq) ?ha ?_ | refine' xAu (by decide) rfl rfl rfl (fun w => ?hq) ?ha ?_ | refine' xAj (by decide) rfl rfl rfl (fun w => ?hq) ?ha ?_ | refine' xAw (by decide) rfl rfl rfl (fun w => ?hq) ?ha ?_ | refine' xBg (by decide) rfl rfl rfl rfl (fun w => ?hq) ?ha ?_ | refine' xBe (by decide) rfl rfl rfl rfl rfl rfl (fun w => ?hq) ?ha ?_ | refine' xBd (by decide) rfl rfl (fun w => ?hq) ?ha ?_ | refine' xAt (by decide) rfl rfl rfl (fun w => ?hq) ?ha ?_ | refine' xBf (by decide) rfl rfl rfl (fun w => ?hq) ?ha ?_); (case hq => go_simp; try rfl)) | (refine' xAn (by decide) rfl rfl rfl ?ha ?_) | (refine' xBo (by decide) rfl rfl rfl rfl ?ha ?_) | (refine' xBn (by decide) rfl ?ha ?_) | (refine' xBb rfl rfl rfl (xBj Try.func32 (by kernel_rfl) (by kernel_rfl) _) (fun w => o0 w) ?ha ?_) | (refine' hd_callR rfl rfl rfl (xBj Try.func28 (by kernel_rfl) (by kernel_rfl) _) (fun w hw => ck _ w hw) ?ha ?_) | (refine' hd_unOp (by decide) rfl rfl rfl (fun w => ?hq) ?ha ?_; (case hq => go_simp; try rfl))); try (case ha => simp only [kP, kQ, kA, kB]; try rfl))
        refine xBt (hK _ _ ?_)
        clear hK K
        refine xBv (fun Q hQ => ?_)
        try simp only [List.nil_append, List.cons_append]
        repeat ((first | refine' xAy rfl (.inl rfl) rfl ?hk ?ha ?_ | refine' xAy rfl (.inr rfl) rfl ?hk ?ha ?_ | (refine' xAp rfl rfl rfl inferInstance rfl ?hs rfl rfl ?hn ?hk ?ha ?_; (case hs => repeat (first | exact xAh.head | apply xAh.tail)); (case hn => first | rfl | simp)) | (refine' xAi rfl rfl rfl inferInstance rfl rfl ?hs ?hn ?hl ?hk ?ha ?_; (case hs => repeat (first | exact xAh.head | apply xAh.tail)); (case hn => first | exact oD rfl | (show _ < 4; with_reducible assumption) | (simp; try omega)); (case hl => first | with_reducible assumption | (simp only [nl, kA, kB]; first | done | rfl) | rfl)) | (refine' xAm rfl rfl rfl inferInstance rfl rfl ?hvn ?hs ?hn ?hl ?hk ?ha ?_; (case hvn => first | rfl | simp); (case hs => repeat (first | exact xAh.head | apply xAh.tail)); (case hn => first | exact oD rfl | (show _ < 4; with_reducible assumption) | (simp; try omega)); (case hl => first | with_reducible assumption | (simp only [nl, kA, kB]; first | done | rfl) | rfl)) | (refine' xBl rfl (fun w => ?hq) ?hk ?ha ?_; (case hq => go_simp; try rfl))); (case hk => intro p hp; first | exact absurd hp List.not_mem_nil | (obtain rfl := List.mem_singleton.1 hp; repeat (first | exact List.Mem.head _ | with_reducible assumption | apply mC))); (case ha => simp only [kP, kQ, kA, kB]; try rfl))
        refine xBu (fun w hR => hQ _ _ ?_)
        clear hQ Q
        go_wp2_with (first | (refine' xAg hR rfl rfl rfl ?_; clear hR; intro blk w hR) | (refine' xAb hR rfl rfl inferInstance ?_; clear hR; intro blk w hR) | (refine' xAf hR rfl rfl rfl inferInstance ?hm ?hn ?_; (case hm => first | with_reducible assumption | repeat (first | exact .head _ | with_reducible assumption | apply mC)); (case hn => first | rfl | simp)) | (refine' xAe hR rfl rfl rfl inferInstance ?hm ?hv ?hn ?_; (case hm => first | with_reducible assumption | repeat (first | exact .head _ | with_reducible assumption | apply mC)); (case hv => first | with_reducible assumption | (simp only [kC, kD, kE, kF]; try rfl)); (case hn => first | rfl | simp)) | (refine' xAc hR rfl rfl rfl inferInstance ?hm ?hv ?_; (case hm => first | with_reducible assumption | repeat (first | exact .head _ | with_reducible assumption | apply mC)); (case hv => first | rfl | with_reducible assumption)) | (refine' xAd hR rfl rfl rfl inferInstance rfl ?hs ?zone ?zvn ?hn ?_; (case hs => repeat (first | exact xAh.head | apply xAh.tail)); (case zone => first | rfl | with_reducible assumption); (case zvn => first | rfl | simp); (case hn => first | rfl | simp); clear hR; intro w hR) | (refine' xAa hR rfl rfl rfl inferInstance rfl rfl ?hs ?hn ?hl ?_; (case hs => repeat (first | exact xAh.head | apply xAh.tail)); (case hn => first | exact oD rfl | (show _ < 4; with_reducible assumption) | (simp; try omega)); (case hl => first | with_reducible assumption | (simp only [nl, kA, kB]; first | done | rfl) | rfl); clear hR; intro w hR) | fail)
        exact hK.out (i + 1) _ _ hi1.out hmu.out (by simp only [ek.out]; exact xBq rfl rfl rfl) hR.drop1.drop1
      · obtain ⟨j, hj⟩ : ∃ j, i = j + 1 := ⟨i - 1, by omega⟩
        have c0 : decide (0 < (i : Int)) = true := decide_eq_true (by omega)
        have c0' : 0 < (i : Int) := oD c0
        have c2 : decide (0 < i) = true := decide_eq_true (by omega)
        have c2' : 0 < i := oD c2
        have hjk : j < k := by omega
        have hsj := hsub.out j hjk
        obtain ⟨tj, aj, kj, cj, hVj, hjB, htjB⟩ := hsj.row
        have rp := rp (by omega)
        rw [show i - 1 = j by omega, hni] at rp
        obtain ⟨nj, hnj⟩ : ∃ x, (p j).num = x := ⟨_, rfl⟩
        rw [hnj] at rp hjB hVj
        have u7 := fun (L : List (Nat × Obj)) (w : World) (hR : Rep W.heap.size W L w) => num_load (n := nj) (t := tj) (v := .slice aj kj cj) (hVj ▸ hmr w (hR.weaken (List.nil_sublist _)) j hjk)
        have ej : IntKind.i64.wrap ((i : Int) - 1) = (j : Int) := by rw [IntKind.wrap_i64]; unfold maxLen at hcm; omega
        obtain ⟨c, hc⟩ : ∃ c, cmpN nj ni = c := ⟨_, rfl⟩
        have m1 := cmp_lit hjB hiB hc
        have c1 : decide (0 ≤ c) = false := decide_eq_false fun h => by
          rw [← hc, cmpN_ge] at h
          omega
        have c1' : ¬ 0 ≤ c := of_decide_eq_false c1
        have gj : 0 ≤ (j : Int) := by omega
        have gj' : (j : Int) < (k : Int) := by omega
        clear hmr hsi gp cp dp rp hVi rl hni hq nz hi hik hik' hpart hmem hsub hfin p2 cb hi0 hj hsj hVj hnj hc hjk cbare
        repeat (first | (obtain ⟨x, tm', e, ht'⟩ := xBk ht; clear ht; subst e; have ht := ht'; clear ht') | (obtain ⟨tm', e, ht'⟩ := xBc ht; clear ht; subst e; have ht := ht'; clear ht'))
        obtain rfl := xBm ht
        clear ht
        go_wp2_with (first | (refine' xAg hR rfl rfl rfl ?_; clear hR; intro blk w hR) | (refine' xAb hR rfl rfl inferInstance ?_; clear hR; intro blk w hR) | (refine' xAf hR rfl rfl rfl inferInstance ?hm ?hn ?_; (case hm => first | with_reducible assumption | repeat (first | exact .head _ | with_reducible assumption | apply mC)); (case hn => first | rfl | simp)) | (refine' xAe hR rfl rfl rfl inferInstance ?hm ?hv ?hn ?_; (case hm => first | with_reducible assumption | repeat (first | exact .head _ | with_reducible assumption | apply mC)); (case hv => first | with_reducible assumption | (simp only [kC, kD, kE, kF]; try rfl)); (case hn => first | rfl | simp)) | (refine' xAc hR rfl rfl rfl inferInstance ?hm ?hv ?_; (case hm => first | with_reducible assumption | repeat (first | exact .head _ | with_reducible assumption | apply mC)); (case hv => first | rfl | with_reducible assumption)) | (refine' xAd hR rfl rfl rfl inferInstance rfl ?hs ?zone ?zvn ?hn ?_; (case hs => repeat (first | exact xAh.head | apply xAh.tail)); (case zone => first | rfl | with_reducible assumption); (case zvn => first | rfl | simp); (case hn => first | rfl | simp); clear hR; intro w hR) | (refine' xAa hR rfl rfl rfl inferInstance rfl rfl ?hs ?hn ?hl ?_; (case hs => repeat (first | exact xAh.head | apply xAh.tail)); (case hn => first | exact oD rfl | (show _ < 4; with_reducible assumption) | (simp; try omega)); (case hl => first | with_reducible assumption | (simp only [nl, kA, kB]; first | done | rfl) | rfl); clear hR; intro w hR) | fail)
        refine' wp_region_alloc2 hR [1, 1, 1, 1, 1, 1, 1, 1, 1, 1, 1, 1, 2, 2, 2, 2, 2] 12 13 6 7 _ _ _ _ [14, 15, 16] xCe (by kernel_rfl) rfl rfl rfl rfl rfl rfl rfl (by decide) (isAlloc rfl rfl ?z1) (isAlloc rfl rfl ?z2) ?_
        case z1 => exact inferInstance
        case z2 => exact inferInstance
        intro K hK
        clear hR
        repeat ((first | (refine' hd_loadKP rfl rfl rfl r7 ?ha ?_) | (refine xBp ?_) | (refine' xAx (by decide) rfl (.inl rfl) rfl ?ha ?_) | (refine' xAx (by decide) rfl (.inr rfl) rfl ?ha ?_) | (refine' xAv rfl rfl rfl inferInstance ?hm ?hn ?ha ?_; (case hm => first | with_reducible assumption | repeat (first | exact .head _ | with_reducible assumption | apply mC)); (case hn => first | rfl | simp)) | (refine' xAs rfl rfl rfl inferInstance ?hm ?hv ?hn ?ha ?_; (case hm => first | with_reducible assumption | repeat (first | exact .head _ | with_reducible assumption | apply mC)); (case hv => first | with_reducible assumption | (simp only [kC, kD, kE, kF]; try rfl)); (case hn => first | rfl | simp)) | (refine' xAo rfl rfl rfl inferInstance ?hm ?hv ?ha ?_; (case hm => first | with_reducible assumption | repeat (first | exact .head _ | with_reducible assumption | apply mC)); (case hv => first | rfl | with_reducible assumption)) | (refine' hd_keepAll rfl rfl rfl inferInstance ?hm ?hn ?ha ?_; (case hm => first | with_reducible assumption | repeat (first | exact .head _ | with_reducible assumption | apply mC)); (case hn => first | rfl | simp)) | (refine' xAr rfl rfl rfl inferInstance ?hm ?hv ?hn ?ha ?_; (case hm => first | with_reducible assumption | repeat (first | exact .head _ | with_reducible assumption | apply mC)); (case hv => first | with_reducible assumption | (simp only [kC, kD, kE, kF]; try rfl)); (case hn => first | rfl | simp)) | (refine' xAq rfl rfl rfl inferInstance ?hm ?hv ?ha ?_; (case hm => first | with_reducible assumption | repeat (first | exact .head _ | with_reducible assumption | apply mC)); (case hv => first | rfl | with_reducible assumption)) | ((first | refine' xAk (by decide) rfl rfl rfl rfl (fun w => ?hq) ?ha ?_ | refine' xBh (by decide) rfl rfl rfl rfl (fun w => ?hq) ?ha ?_ | refine' xAu (by decide) rfl rfl rfl (fun w => ?hq) ?ha ?_ | refine' xAj (by decide) rfl rfl rfl (fun w => ?hq) ?ha ?_ | refine' xAw (by decide) rfl rfl rfl (fun w => ?hq) ?ha ?_ | refine' xBg (by decide) rfl rfl rfl rfl (fun w => ?hq) ?ha ?_ | refine' xBe (by decide) rfl rfl rfl rfl rfl rfl (fun w => ?hq) ?ha ?_ | refine' xBd (by decide) rfl rfl (fun w => ?hq) ?ha ?_ | refine' xAt (by decide) rfl rfl rfl (fun w => ?hq) ?ha ?_ | refine' xBf (by decide) rfl rfl rfl (fun w => ?hq) ?ha ?_); (case hq => go_simp; try rfl)) | (refine' xAn (by decide) rfl rfl rfl ?ha ?_) | (refine' xBo (by decide) rfl rfl rfl rfl ?ha ?_) | (refine' xBn (by decide) rfl ?ha ?_) | (refine' xCg rfl rfl rfl (xBj Try.func37 (by kernel_rfl) (by kernel_rfl) _) (fun w => d1 w) ?ha ?_)); try (case ha => simp only [kP, kQ, kA, kB]; try rfl))
        try simp only [List.nil_append, List.cons_append]
        refine xBt (hK _ _ (fun _ _ => ?_))
        clear hK K
        refine xBv (fun Q hQ => ?_)
        simp only [kP, kQ, kA, kB]
        repeat ((first | refine' xAy rfl (.inl rfl) rfl ?hk ?ha ?_ | refine' xAy rfl (.inr rfl) rfl ?hk ?ha ?_ | (refine' xAp rfl rfl rfl inferInstance rfl ?hs rfl rfl ?hn ?hk ?ha ?_; (case hs => repeat (first | exact xAh.head | apply xAh.tail)); (case hn => first | rfl | simp)) | (refine' xAi rfl rfl rfl inferInstance rfl rfl ?hs ?hn ?hl ?hk ?ha ?_; (case hs => repeat (first | exact xAh.head | apply xAh.tail)); (case hn => first | exact oD rfl | (show _ < 4; with_reducible assumption) | (simp; try omega)); (case hl => first | with_reducible assumption | (simp only [nl, kA, kB]; first | done | rfl) | rfl)) | (refine' xAm rfl rfl rfl inferInstance rfl rfl ?hvn ?hs ?hn ?hl ?hk ?ha ?_; (case hvn => first | rfl | simp); (case hs => repeat (first | exact xAh.head | apply xAh.tail)); (case hn => first | exact oD rfl | (show _ < 4; with_reducible assumption) | (simp; try omega)); (case hl => first | with_reducible assumption | (simp only [nl, kA, kB]; first | done | rfl) | rfl)) | (refine' xBl rfl (fun w => ?hq) ?hk ?ha ?_; (case hq => go_simp; try rfl))); (case hk => intro p hp; repeat (first | exact hp | apply mT)); (case ha => simp only [kP, kQ, kA, kB]; try rfl))
        refine xBu (fun w hR => hQ _ _ ?_)
        clear hQ Q
        go_wp2_with (first | (refine' xAg hR rfl rfl rfl ?_; clear hR; intro blk w hR) | (refine' xAb hR rfl rfl inferInstance ?_; clear hR; intro blk w hR) | (refine' xAf hR rfl rfl rfl inferInstance ?hm ?hn ?_; (case hm => first | with_reducible assumption | repeat (first | exact .head _ | with_reducible assumption | apply mC)); (case hn => first | rfl | simp)) | (refine' xAe hR rfl rfl rfl inferInstance ?hm ?hv ?hn ?_; (case hm => first | with_reducible assumption | repeat (first | exact .head _ | with_reducible assumption | apply mC)); (case hv => first | with_reducible assumption | (simp only [kC, kD, kE, kF]; try rfl)); (case hn => first | rfl | simp)) | (refine' xAc hR rfl rfl rfl inferInstance ?hm ?hv ?_; (case hm => first | with_reducible assumption | repeat (first | exact .head _ | with_reducible assumption | apply mC)); (case hv => first | rfl | with_reducible assumption)) | (refine' xAd hR rfl rfl rfl inferInstance rfl ?hs ?zone ?zvn ?hn ?_; (case hs => repeat (first | exact xAh.head | apply xAh.tail)); (case zone => first | rfl | with_reducible assumption); (case zvn => first | rfl | simp); (case hn => first | rfl | simp); clear hR; intro w hR) | (refine' xAa hR rfl rfl rfl inferInstance rfl rfl ?hs ?hn ?hl ?_; (case hs => repeat (first | exact xAh.head | apply xAh.tail)); (case hn => first | exact oD rfl | (show _ < 4; with_reducible assumption) | (simp; try omega)); (case hl => first | with_reducible assumption | (simp only [nl, kA, kB]; first | done | rfl) | rfl); clear hR; intro w hR) | fail)
        refine xAl hR [0, 0, 0, 0, 0, 0, 0, 0, 0, 0, 0, 0, 0, 0, 0, 0, 0, 0, 0, 0, 0, 0, 0, 0, 0, 0, 0, 0, 0, 0, 0, 0, 0, 0, 0, 0, 0] [] xCe (by kernel_rfl) rfl rfl (fun K hK => ?_)
        clear hR
        repeat ((first | (refine' hd_loadP rfl rfl rfl r9 ?ha ?_) | (refine' hd_loadP rfl rfl rfl r7 ?ha ?_) | (refine' hd_loadP rfl rfl rfl u7 ?ha ?_) | (refine xBp ?_) | (refine' xAx (by decide) rfl (.inl rfl) rfl ?ha ?_) | (refine' xAx (by decide) rfl (.inr rfl) rfl ?ha ?_) | (refine' xAv rfl rfl rfl inferInstance ?hm ?hn ?ha ?_; (case hm => first | with_reducible assumption | repeat (first | exact .head _ | with_reducible assumption | apply mC)); (case hn => first | rfl | simp)) | (refine' xAs rfl rfl rfl inferInstance ?hm ?hv ?hn ?ha ?_; (case hm => first | with_reducible assumption | repeat (first | exact .head _ | with_reducible assumption | apply mC)); (case hv => first | with_reducible assumption | (simp only [kC, kD, kE, kF]; try rfl)); (case hn => first | rfl | simp)) | (refine' xAo rfl rfl rfl inferInstance ?hm ?hv ?ha ?_; (case hm => first | with_reducible assumption | repeat (first | exact .head _ | with_reducible assumption | apply mC)); (case hv => first | rfl | with_reducible assumption)) | (refine' xAr rfl rfl rfl inferInstance ?hm ?hv ?hn ?ha ?_; (case hm => first | with_reducible assumption | repeat (first | exact .head _ | with_reducible assumption | apply mC)); (case hv => first | with_reducible assumption | (simp only [kC, kD, kE, kF]; try rfl)); (case hn => first | rfl | simp)) | (refine' xAq rfl rfl rfl inferInstance ?hm ?hv ?ha ?_; (case hm => first | with_reducible assumption | repeat (first | exact .head _ | with_reducible assumption | apply mC)); (case hv => first | rfl | with_reducible assumption)) | ((first | refine' xAk (by decide) rfl rfl rfl rfl (fun w => ?hq) ?ha ?_ | refine' xBh (by decide) rfl rfl rfl rfl (fun w => ?hq) ?ha ?_ | refine' xAu (by decide) rfl rfl rfl (fun w => ?hq) ?ha ?_ | refine' xAj (by decide) rfl rfl rfl (fun w => ?hq) ?ha ?_ | refine' xAw (by decide) rfl rfl rfl (fun w => ?hq) ?ha ?_ | refine' xBg (by decide) rfl rfl rfl rfl (fun w => ?hq) ?ha ?_ | refine' xBe (by decide) rfl rfl rfl rfl rfl rfl (fun w => ?hq) ?ha ?_ | refine' xBd (by decide) rfl rfl (fun w => ?hq) ?ha ?_ | refine' xAt (by decide) rfl rfl rfl (fun w => ?hq) ?ha ?_ | refine' xBf (by decide) rfl rfl rfl (fun w => ?hq) ?ha ?_); (case hq => go_simp; try rfl)) | (refine' xAn (by decide) rfl rfl rfl ?ha ?_) | (refine' xBo (by decide) rfl rfl rfl rfl ?ha ?_) | (refine' xBn (by decide) rfl ?ha ?_) | (refine' xBb rfl rfl rfl (xBj Try.func32 (by kernel_rfl) (by kernel_rfl) _) (fun w => o0 w) ?ha ?_) | (refine' hd_callR rfl rfl rfl (xBj Try.func28 (by kernel_rfl) (by kernel_rfl) _) (fun w hw => ck _ w hw) ?ha ?_) | (refine' xBb rfl rfl rfl (xBj Try.func13 (by kernel_rfl) (by kernel_rfl) _) (fun w => m1 w) ?ha ?_) | (refine' hd_unOp (by decide) rfl rfl rfl (fun w => ?hq) ?ha ?_; (case hq => go_simp; try rfl))); try (case ha => simp only [kP, kQ, kA, kB]; try rfl))
        refine xBt (hK _ _ ?_)
        clear hK K
        refine xBv (fun Q hQ => ?_)
        try simp only [List.nil_append, List.cons_append]
        repeat ((first | refine' xAy rfl (.inl rfl) rfl ?hk ?ha ?_ | refine' xAy rfl (.inr rfl) rfl ?hk ?ha ?_ | (refine' xAp rfl rfl rfl inferInstance rfl ?hs rfl rfl ?hn ?hk ?ha ?_; (case hs => repeat (first | exact xAh.head | apply xAh.tail)); (case hn => first | rfl | simp)) | (refine' xAi rfl rfl rfl inferInstance rfl rfl ?hs ?hn ?hl ?hk ?ha ?_; (case hs => repeat (first | exact xAh.head | apply xAh.tail)); (case hn => first | exact oD rfl | (show _ < 4; with_reducible assumption) | (simp; try omega)); (case hl => first | with_reducible assumption | (simp only [nl, kA, kB]; first | done | rfl) | rfl)) | (refine' xAm rfl rfl rfl inferInstance rfl rfl ?hvn ?hs ?hn ?hl ?hk ?ha ?_; (case hvn => first | rfl | simp); (case hs => repeat (first | exact xAh.head | apply xAh.tail)); (case hn => first | exact oD rfl | (show _ < 4; with_reducible assumption) | (simp; try omega)); (case hl => first | with_reducible assumption | (simp only [nl, kA, kB]; first | done | rfl) | rfl)) | (refine' xBl rfl (fun w => ?hq) ?hk ?ha ?_; (case hq => go_simp; try rfl))); (case hk => intro p hp; first | exact absurd hp List.not_mem_nil | (obtain rfl := List.mem_singleton.1 hp; repeat (first | exact List.Mem.head _ | with_reducible assumption | apply mC))); (case ha => simp only [kP, kQ, kA, kB]; try rfl))
        refine xBu (fun w hR => hQ _ _ ?_)
        clear hQ Q
        go_wp2_with (first | (refine' xAg hR rfl rfl rfl ?_; clear hR; intro blk w hR) | (refine' xAb hR rfl rfl inferInstance ?_; clear hR; intro blk w hR) | (refine' xAf hR rfl rfl rfl inferInstance ?hm ?hn ?_; (case hm => first | with_reducible assumption | repeat (first | exact .head _ | with_reducible assumption | apply mC)); (case hn => first | rfl | simp)) | (refine' xAe hR rfl rfl rfl inferInstance ?hm ?hv ?hn ?_; (case hm => first | with_reducible assumption | repeat (first | exact .head _ | with_reducible assumption | apply mC)); (case hv => first | with_reducible assumption | (simp only [kC, kD, kE, kF]; try rfl)); (case hn => first | rfl | simp)) | (refine' xAc hR rfl rfl rfl inferInstance ?hm ?hv ?_; (case hm => first | with_reducible assumption | repeat (first | exact .head _ | with_reducible assumption | apply mC)); (case hv => first | rfl | with_reducible assumption)) | (refine' xAd hR rfl rfl rfl inferInstance rfl ?hs ?zone ?zvn ?hn ?_; (case hs => repeat (first | exact xAh.head | apply xAh.tail)); (case zone => first | rfl | with_reducible assumption); (case zvn => first | rfl | simp); (case hn => first | rfl | simp); clear hR; intro w hR) | (refine' xAa hR rfl rfl rfl inferInstance rfl rfl ?hs ?hn ?hl ?_; (case hs => repeat (first | exact xAh.head | apply xAh.tail)); (case hn => first | exact oD rfl | (show _ < 4; with_reducible assumption) | (simp; try omega)); (case hl => first | with_reducible assumption | (simp only [nl, kA, kB]; first | done | rfl) | rfl); clear hR; intro w hR) | fail)
        exact hK.out (i + 1) _ _ hi1.out hmu.out (by simp only [ek.out]; exact xBq rfl rfl rfl) hR.drop1.drop1
end Go.Proofs.Ythbcgcncoggagaa
