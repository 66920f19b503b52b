/- Reasons in memory; the contract of primes.witness. -/
import Derived.Test.YtdagdfcbnhfdkaaMO
import Derived.ChangeArms
import Derived.Test.YtdagdfcbnhfdkaaMN
set_option linter.unusedVariables false
set_option linter.unusedSimpArgs false
namespace Go.Proofs.Ytdagdfcbnhfdkaa
open Go.RowKit
attribute [local irreducible] Calls
noncomputable def rrow (n t : Nat) (v : Value) : List Value := [.int .u64 (wd n 0), .int .u64 (wd n 1), .int .u64 (wd n 2), .int .u64 (wd n 3), .int .u64 (wd t 0), .int .u64 (wd t 1), .int .u64 (wd t 2), .int .u64 (wd t 3), v]
@[simp] theorem rrow_length (n t : Nat) (v : Value) : (rrow n t v).length = 9 := rfl
theorem rr_n (n t : Nat) (v : Value) : ((rrow n t v).drop 0).take 4 = nl n := rfl
theorem rr_t (n t : Nat) (v : Value) : ((rrow n t v).drop 4).take 4 = nl t := rfl
theorem rr_v (n t : Nat) (v : Value) : (rrow n t v)[8]? = some v := rfl
theorem rr_w (n t : Nat) (v : Value) : (rrow n t v)[0]? = some (.int .u64 (wd n 0)) := rfl
instance zeroReason : ZeroT Try.prog 27 [.int .u64 0, .int .u64 0, .int .u64 0, .int .u64 0, .int .u64 0, .int .u64 0, .int .u64 0, .int .u64 0, .slice none 0 0] := ⟨.agg (List.toArray [.int .u64 0, .int .u64 0, .int .u64 0, .int .u64 0, .int .u64 0, .int .u64 0, .int .u64 0, .int .u64 0, .slice none 0 0]), by kernel_rfl, rfl⟩
def RAt (B0 : Nat) (w0 : World) (L : List (Nat × Obj)) : RT → List Value → Prop
  | .leaf, _ => False
  | .node n t k p, l => n < B ∧ t < B ∧ ∃ a cap, ∃ V : Nat → List Value, l = rrow n t (.slice a k cap) ∧ k ≤ cap ∧ cap ≤ maxLen ∧
      (k ≠ 0 → ∃ bb off, a = some ⟨bb, off, none⟩ ∧ ∀ w, Rep B0 w0 L w → ∀ j, j < k → w.rangeAt bb (off + j * 9) (V j)) ∧ ∀ j, j < k → RAt B0 w0 L (p j) (V j)
theorem xBs {ops : Array Oper} {rest : List Oper} {o : Oper} {a : Act} {w : World} {Q : Exit → Act → World → Prop} (hg : o.guard = none) {ty : TypeId} {x : Operand} (ho : o.op = .load ty x) {ad : Addr} (hx : a.eval x = .pointer (some ad)) {v : Value}
    (hrun : (loadVar ty ad).run Try.prog w = .ok v w) (h : wpList Try.prog ops Q rest (a.put o.dst v) w) : wpList Try.prog ops Q (o :: rest) a w :=
  wpList_plain hg fun _ hK => by
    unfold Oper.wp execOp
    simp only [ho, hx, Instr.loadAt, Instr.sureAddr, Sem.run_bind, Sem.run_pure, Result.andThen_ok, hrun]
    exact hK _ _ h
theorem loop_whileC {α : Type} {P : Program} {c : Code} {Q : Exit → Act → World → Prop} {l : List Value} {d : List Deferred} {w w0 : World} {B0 : Nat} {L : List (Nat × Obj)} (hR : Rep B0 w0 L w) (mask : List Bool) (upd : α → List Value → List Value) (μ : α → Nat) (Ok : α → Prop) (x0 : α)
    (h0 : agree mask (upd x0 l) l) (hO : Ok x0)
    (hs : ∀ x tm w, Ok x → agree mask (upd x l) tm → Rep B0 w0 L w → ∀ K : Act → World → Prop, Held (∀ y tm' w', Ok y → μ y < μ x → agree mask (upd y l) tm' → Rep B0 w0 L w' → K ⟨tm'.toArray, d⟩ w') → c.wp P (Exit.then K Q) ⟨tm.toArray, d⟩ w) : (Code.loop c).wp P Q ⟨l.toArray, d⟩ w :=
  xCk mask upd (fun _ => L) μ Ok x0 h0 hO hR hs
section
variable {B0 : Nat} {w0 w : World} {L L' : List (Nat × Obj)}
theorem RAt.mono (hL : ∀ w, Rep B0 w0 L' w → Rep B0 w0 L w) : ∀ {r : RT} {l : List Value}, RAt B0 w0 L r l → RAt B0 w0 L' r l
  | .leaf, _, h => h.elim
  | .node n t k p, l, ⟨h1, h2, a, cap, V, h3, h4, h5, h6, h7⟩ => ⟨h1, h2, a, cap, V, h3, h4, h5, fun hk => by
      obtain ⟨bb, off, q1, q2⟩ := h6 hk
      exact ⟨bb, off, q1, fun w hw => q2 w (hL w hw)⟩, fun j hj => RAt.mono hL (h7 j hj)⟩
theorem RAt.any {r : RT} {l : List Value} (h : RAt B0 w0 [] r l) : RAt B0 w0 L r l := h.mono fun w hw => hw.weaken (List.nil_sublist _)
theorem RAt.len : ∀ {r : RT} {l : List Value}, RAt B0 w0 L r l → l.length = 9
  | .leaf, _, h => h.elim
  | .node n t k p, l, ⟨_, _, a, cap, V, h3, _⟩ => by rw [h3]; rfl
theorem RAt.row : ∀ {r : RT} {l : List Value}, RAt B0 w0 L r l → ∃ t a k c, l = rrow r.num t (.slice a k c) ∧ r.num < B ∧ t < B
  | .leaf, _, h => h.elim
  | .node n t k p, l, ⟨h1, h2, a, cap, V, h3, _⟩ => ⟨t, a, k, cap, h3, h1, h2⟩
theorem RAt.num_lt : ∀ {r : RT} {l : List Value}, RAt B0 w0 L r l → r.num < B
  | .leaf, _, h => h.elim
  | .node n t k p, l, ⟨h, _⟩ => h
theorem reason_load {bb o : Nat} {l : List Value} (h : w.rangeAt bb o l) (hl : l.length = 9) : (loadVar 27 ⟨bb, o, none⟩).run Try.prog w = .ok (.agg l.toArray) w := by
  obtain ⟨d, hu, hd, hi⟩ := rowReason.is
  exact run_loadVar_mid w bb o 27 l d h hu hd (by rw [hi, hl])
set_option maxRecDepth 100000 in
set_option maxHeartbeats 8000000 in
theorem witness_any (n t k : Nat) (p : Nat → RT) {l : List Value} (h2 : 2 ≤ n) (hr : RAt B0 w0 L (.node n t k p) l) (s : Bool) (hs : s = true ↔ witR n t k fun i => (p i).num) (hR : Rep B0 w0 L w) :
    Calls Try.prog 45 #[.agg l.toArray, num (n - 1)] w fun e w' => e = .returned (.bool s) ∧ Rep B0 w0 L w' := by
  obtain ⟨hn, htB, a, cap, V, rfl, hkc, hcm, hmem, hsub⟩ := hr
  obtain ⟨n1, hn1⟩ : ∃ n, n = 1 := ⟨_, rfl⟩
  have o1 : ∀ w, Calls Try.prog 40 #[.int .u64 1] w fun e w' => e = .returned (num n1) ∧ Below w.heap.size w w' := fun w => by
    rw [hn1]; exact of_any 1 (by decide) w
  have L1 : n1 < B := lt_B (by omega)
  obtain ⟨ls, hls⟩ : ∃ x, n - 1 = x := ⟨_, rfl⟩
  have hlB : ls < B := by omega
  rw [hls]
  have tn := rr_n n t (.slice a k cap)
  have tt := rr_t n t (.slice a k cap)
  have tv := rr_v n t (.slice a k cap)
  obtain ⟨c, hc⟩ : ∃ c, cmpN t n1 = c := ⟨_, rfl⟩
  have m1 := cmp_lit htB L1 hc
  have hc' := cmpN_le t n1
  rw [hc] at hc'
  obtain ⟨er, her⟩ : ∃ e : Int, (if okE t n then (0 : Int) else 1) = e := ⟨_, rfl⟩
  obtain ⟨x, hx⟩ : ∃ x, (if okE t n then powN t ls n else 0) = x := ⟨_, rfl⟩
  have x1 := mexp_lit htB hlB hn hx her
  have hs' : witR n t k (fun i => (p i).num) ↔ (1 < t ∧ t < n ∧ powN t ls n = 1 ∧ ∀ i, i < k → gcdN (subN (powN t (ls / (p i).num) n) 1 n) n = 1) := by unfold witR; rw [hls]
  by_cases ht1 : t ≤ n1
  · have e1 : decide (c ≤ 0) = true := decide_eq_true (hc'.2 ht1)
    obtain rfl : s = false := by
      cases s
      · rfl
      · have := hs'.1 (hs.1 rfl)
        omega
    clear hs hs' hc' hmem hsub her hx hn1 hls
    go_enter Try.func45, Try.ntmps45
    go_wp2_with (first | (refine' xAb hR rfl rfl rfl ?_; clear hR; intro blk w hR) | (refine' xAa hR rfl rfl inferInstance ?_; clear hR; intro blk w hR) | (refine' aFq hR rfl rfl rfl inferInstance ?_) | (refine' aGq hR rfl rfl rfl inferInstance ?_) | (refine' aHq hR rfl rfl rfl inferInstance ?_) | (refine' aDq hR rfl rfl rfl inferInstance rfl ?_; clear hR; intro w hR) | (refine' aEq hR rfl rfl rfl inferInstance rfl rfl ?_; clear hR; intro w hR) | (go_at_call 40; refine (o1 _).mono ?_; rintro e w ⟨rfl, hb⟩; replace hR := hR.call hb; clear hb) | (go_at_call 42; refine (m1 _).mono ?_; rintro e w ⟨rfl, hb⟩; replace hR := hR.call hb; clear hb))
    go_ret
    exact ⟨rfl, hR.weaken ((List.sublist_cons_self _ _).trans ((List.sublist_cons_self _ _).trans (List.sublist_cons_self _ _)))⟩
  have e1 : decide (c ≤ 0) = false := decide_eq_false fun h => ht1 (hc'.1 h)
  have e1' : ¬ c ≤ 0 := of_decide_eq_false e1
  have xB : x < B := by
    rw [← hx]
    split
    · rw [powN_def]; exact Nat.lt_trans (Nat.mod_lt _ (by omega)) hn
    · exact lt_B (by decide)
  by_cases htn : t < n
  case neg =>
    have hno : ¬ okE t n := fun h => htn h.2
    rw [if_neg hno] at her
    obtain rfl : s = false := by
      cases s
      · rfl
      · exact absurd (hs'.1 (hs.1 rfl)).2.1 htn
    subst her
    clear hs hs' hc' hmem hsub hx hn1 hls
    go_enter Try.func45, Try.ntmps45
    go_wp2_with (first | go_skip | (refine' xAb hR rfl rfl rfl ?_; clear hR; intro blk w hR) | (refine' xAa hR rfl rfl inferInstance ?_; clear hR; intro blk w hR) | (refine' aFq hR rfl rfl rfl inferInstance ?_) | (refine' aGq hR rfl rfl rfl inferInstance ?_) | (refine' aHq hR rfl rfl rfl inferInstance ?_) | (refine' aDq hR rfl rfl rfl inferInstance rfl ?_; clear hR; intro w hR) | (refine' aEq hR rfl rfl rfl inferInstance rfl rfl ?_; clear hR; intro w hR) | (refine' xAg hR rfl rfl rfl inferInstance ?hm ?hn ?_; (case hm => first | with_reducible assumption | repeat (first | exact .head _ | with_reducible assumption | apply mC)); (case hn => first | rfl | simp)) | (refine' xAc hR rfl rfl rfl inferInstance ?hm ?hv ?_; (case hm => first | with_reducible assumption | repeat (first | exact .head _ | with_reducible assumption | apply mC)); (case hv => first | rfl | with_reducible assumption)) | (refine' xAz hR rfl rfl rfl inferInstance ?hm ?hv ?hn ?_; (case hm => first | with_reducible assumption | repeat (first | exact .head _ | with_reducible assumption | apply mC)); (case hv => first | with_reducible assumption | (simp only [kC, kD, kE, kF]; try rfl)); (case hn => first | rfl | simp)) | (go_at_call 40; refine (o1 _).mono ?_; rintro e w ⟨rfl, hb⟩; replace hR := hR.call hb; clear hb) | (go_at_call 42; refine (m1 _).mono ?_; rintro e w ⟨rfl, hb⟩; replace hR := hR.call hb; clear hb) | (go_at_call 86; refine (x1 _).mono ?_; rintro e w ⟨rfl, hb⟩; replace hR := hR.call hb; clear hb))
    go_ret
    exact ⟨rfl, hR.drop1.drop1.drop1.drop1⟩
  have hok : okE t n := ⟨by omega, htn⟩
  rw [if_pos hok] at her hx
  subst her
  by_cases hx1 : x = n1
  case neg =>
    have eb : eqN x n1 = false := xBz xB L1 hx1
    obtain rfl : s = false := by
      cases s
      · rfl
      · have := (hs'.1 (hs.1 rfl)).2.2.1
        rw [hx] at this
        omega
    clear hs hs' hc' hmem hsub hx hn1 hls
    go_enter Try.func45, Try.ntmps45
    go_wp2_with (first | go_skip | (refine' xAb hR rfl rfl rfl ?_; clear hR; intro blk w hR) | (refine' xAa hR rfl rfl inferInstance ?_; clear hR; intro blk w hR) | (refine' aFq hR rfl rfl rfl inferInstance ?_) | (refine' aGq hR rfl rfl rfl inferInstance ?_) | (refine' aHq hR rfl rfl rfl inferInstance ?_) | (refine' aDq hR rfl rfl rfl inferInstance rfl ?_; clear hR; intro w hR) | (refine' aEq hR rfl rfl rfl inferInstance rfl rfl ?_; clear hR; intro w hR) | (refine' xAg hR rfl rfl rfl inferInstance ?hm ?hn ?_; (case hm => first | with_reducible assumption | repeat (first | exact .head _ | with_reducible assumption | apply mC)); (case hn => first | rfl | simp)) | (refine' xAc hR rfl rfl rfl inferInstance ?hm ?hv ?_; (case hm => first | with_reducible assumption | repeat (first | exact .head _ | with_reducible assumption | apply mC)); (case hv => first | rfl | with_reducible assumption)) | (refine' xAz hR rfl rfl rfl inferInstance ?hm ?hv ?hn ?_; (case hm => first | with_reducible assumption | repeat (first | exact .head _ | with_reducible assumption | apply mC)); (case hv => first | with_reducible assumption | (simp only [kC, kD, kE, kF]; try rfl)); (case hn => first | rfl | simp)) | (go_at_call 40; refine (o1 _).mono ?_; rintro e w ⟨rfl, hb⟩; replace hR := hR.call hb; clear hb) | (go_at_call 42; refine (m1 _).mono ?_; rintro e w ⟨rfl, hb⟩; replace hR := hR.call hb; clear hb) | (go_at_call 86; refine (x1 _).mono ?_; rintro e w ⟨rfl, hb⟩; replace hR := hR.call hb; clear hb))
    go_ret
    exact ⟨rfl, hR.drop1.drop1.drop1.drop1⟩
  have eb : eqN x n1 = true := xBw hx1
  have hs2 : witR n t k (fun i => (p i).num) ↔ ∀ i, i < k → gcdN (subN (powN t (ls / (p i).num) n) 1 n) n = n1 := by
    rw [hs', hn1]
    exact ⟨fun h => h.2.2.2, fun h => ⟨by omega, htn, by rw [hx, hx1, hn1], h⟩⟩
  have q1 : ∀ y, y < n → okM y n1 n := fun y hy => ⟨by omega, hy, by omega⟩
  have tl := rrow_length n t (.slice a k cap)
  replace hs := Held.mk hs
  replace hs2 := Held.mk hs2
  replace hn1 := Held.mk hn1
  replace hmem := Held.mk hmem
  replace hsub := Held.mk hsub
  replace hls := Held.mk hls
  replace q1 := Held.mk q1
  clear hs' hc' hx ht1 hx1
  go_enter Try.func45, Try.ntmps45
  go_wp2_with (first | go_skip | (refine' xAb hR rfl rfl rfl ?_; clear hR; intro blk w hR) | (refine' xAa hR rfl rfl inferInstance ?_; clear hR; intro blk w hR) | (refine' aFq hR rfl rfl rfl inferInstance ?_) | (refine' aGq hR rfl rfl rfl inferInstance ?_) | (refine' aHq hR rfl rfl rfl inferInstance ?_) | (refine' aDq hR rfl rfl rfl inferInstance rfl ?_; clear hR; intro w hR) | (refine' aEq hR rfl rfl rfl inferInstance rfl rfl ?_; clear hR; intro w hR) | (refine' xAg hR rfl rfl rfl inferInstance ?hm ?hn ?_; (case hm => first | with_reducible assumption | repeat (first | exact .head _ | with_reducible assumption | apply mC)); (case hn => first | rfl | simp)) | (refine' xAc hR rfl rfl rfl inferInstance ?hm ?hv ?_; (case hm => first | with_reducible assumption | repeat (first | exact .head _ | with_reducible assumption | apply mC)); (case hv => first | rfl | with_reducible assumption)) | (refine' xAz hR rfl rfl rfl inferInstance ?hm ?hv ?hn ?_; (case hm => first | with_reducible assumption | repeat (first | exact .head _ | with_reducible assumption | apply mC)); (case hv => first | with_reducible assumption | (simp only [kC, kD, kE, kF]; try rfl)); (case hn => first | rfl | simp)) | (go_at_call 40; refine (o1 _).mono ?_; rintro e w ⟨rfl, hb⟩; replace hR := hR.call hb; clear hb) | (go_at_call 42; refine (m1 _).mono ?_; rintro e w ⟨rfl, hb⟩; replace hR := hR.call hb; clear hb) | (go_at_call 86; refine (x1 _).mono ?_; rintro e w ⟨rfl, hb⟩; replace hR := hR.call hb; clear hb))
  try simp only [Act.put, kA, kB, List.setIfInBounds_toArray]
  refine' loop_whileC hR (false :: false :: false :: false :: false :: false :: false :: false :: false :: true :: true :: true :: true :: true :: true :: false :: false :: false :: false :: false :: false :: false :: false :: false :: false :: false :: false :: false :: false :: false :: false :: false :: false :: false :: false :: false :: false :: false :: false :: false :: false :: true :: true :: true :: true :: true :: true :: true :: true :: true :: true :: true :: true :: true :: true :: true :: true :: true :: true :: true :: true :: true :: true :: true :: true :: true :: true :: true :: true :: true :: true :: true :: true :: true :: true :: true :: []) (fun (i : Nat) l => l.set 40 (.int .i64 (i : Int))) (fun i => k - i) (fun i => i ≤ k ∧ ∀ j, j < i → gcdN (subN (powN t (ls / (p j).num) n) 1 n) n = n1) 0 ?h0 ?hO ?hs
  case h0 => exact xBg rfl rfl rfl
  case hO => exact ⟨Nat.zero_le _, fun j h => absurd h (Nat.not_lt_zero j)⟩
  case hs =>
    clear hR
    intro i tm w hO ht hR K hK
    obtain ⟨hi, hg⟩ := hO
    have g0 : 0 ≤ (i : Int) := by omega
    by_cases hik : i = k
    · subst hik
      clear hK
      have t1 : ¬ (i : Int) < (i : Int) := by omega
      have t1' : decide ((i : Int) < (i : Int)) = false := decide_eq_false t1
      obtain rfl : s = true := hs.out.2 (hs2.out.2 hg)
      clear hg hi hs hs2 q1 x1 m1 o1 hkc hcm
      repeat (first | (obtain ⟨x, tm', e, ht'⟩ := xAu ht; clear ht; subst e; have ht := ht'; clear ht') | (obtain ⟨tm', e, ht'⟩ := xAj ht; clear ht; subst e; have ht := ht'; clear ht'))
      obtain rfl := xAy ht
      clear ht
      go_wp2_with (first | (refine' xAb hR rfl rfl rfl ?_; clear hR; intro blk w hR) | (refine' xAa hR rfl rfl inferInstance ?_; clear hR; intro blk w hR) | (refine' aFq hR rfl rfl rfl inferInstance ?_) | (refine' aGq hR rfl rfl rfl inferInstance ?_) | (refine' aHq hR rfl rfl rfl inferInstance ?_) | (refine' aDq hR rfl rfl rfl inferInstance rfl ?_; clear hR; intro w hR) | (refine' aEq hR rfl rfl rfl inferInstance rfl rfl ?_; clear hR; intro w hR) | fail)
      go_ret
      exact ⟨rfl, hR.drop1.drop1.drop1.drop1⟩
    · have g1 : (i : Int) < (k : Int) := by omega
      have g1' : decide ((i : Int) < (k : Int)) = true := decide_eq_true g1
      obtain ⟨bb, off, rfl, hmr⟩ := hmem.out (by omega)
      have hsi := hsub.out i (by omega)
      have hld := reason_load (hmr w hR.drop1.drop1.drop1.drop1 i (by omega)) hsi.len
      obtain ⟨ti, ai, ki, ci, hVi, hnB, htiB⟩ := hsi.row
      rw [hVi] at hld
      obtain ⟨ni, hni⟩ : ∃ x, (p i).num = x := ⟨_, rfl⟩
      rw [hni] at hld hnB
      have un := rr_n ni ti (.slice ai ki ci)
      have ul := rrow_length ni ti (.slice ai ki ci)
      obtain ⟨dq, hdq⟩ : ∃ x, quo0 ls ni = x := ⟨_, rfl⟩
      obtain ⟨dr, hdr⟩ : ∃ x, rem0 ls ni = x := ⟨_, rfl⟩
      obtain ⟨de, hde⟩ : ∃ e : Int, (if ni = 0 then 1 else 0) = e := ⟨_, rfl⟩
      have d1 := d_lit hlB hnB hdq hdr hde
      have dqB : dq < B := by rw [← hdq, xCn]; exact Nat.lt_of_le_of_lt (Nat.div_le_self _ _) hlB
      obtain ⟨y, hy⟩ : ∃ y, powN t dq n = y := ⟨_, rfl⟩
      have hyl : y < n := by rw [← hy, powN_def]; exact Nat.mod_lt _ (by omega)
      have x2 := mexp_lit (e := 0) (r := y) htB dqB hn (by rw [if_pos hok, hy]) (if_pos hok)
      obtain ⟨z, hz⟩ : ∃ z, subN y n1 n = z := ⟨_, rfl⟩
      have hzl : z < n := by rw [← hz, subN_def]; exact Nat.mod_lt _ (by omega)
      have s1 := msub_lit (e := 0) (r := z) (by omega : y < B) L1 hn (by rw [if_pos (q1.out y hyl), hz]) (if_pos (q1.out y hyl))
      obtain ⟨gc, hgc⟩ : ∃ x, gcdN z n = x := ⟨_, rfl⟩
      have c1 := c_lit (by omega : z < B) hn hgc
      have hz1 : subN y 1 n = z := by rw [← hz, hn1.out]
      have hkey : gcdN (subN (powN t (ls / (p i).num) n) 1 n) n = gc := by rw [hni, ← xCn, hdq, hy, hz1, hgc]
      have gB : gc < B := by rw [← hgc, gcdN_def]; exact gcd_lt_B (by omega) hn
      have ei : IntKind.i64.wrap ((i : Int) + 1) = ((i + 1 : Nat) : Int) := by rw [IntKind.wrap_i64]; unfold maxLen at hcm; omega
      by_cases h1 : gc = n1
      · have eb2 : eqN gc n1 = true := xBw h1
        have hi1 : i + 1 ≤ k := by omega
        have hmu : k - (i + 1) < k - i := by omega
        have hg2 : ∀ j, j < i + 1 → gcdN (subN (powN t (ls / (p j).num) n) 1 n) n = n1 := fun j hj => by
          by_cases hji : j < i
          · exact hg j hji
          · obtain rfl : j = i := by omega
            rw [hkey, h1]
        replace hi1 := Held.mk hi1
        replace hmu := Held.mk hmu
        replace hg2 := Held.mk hg2
        clear hi hg hik hs hs2 hmr hsi hVi hni hdq hdr hde hy hz hgc hz1 hkey h1 q1 x1 m1 o1 hok htn hkc hcm h2 hn1 xB hlB dqB hyl hzl gB hnB htiB
        repeat (first | (obtain ⟨x, tm', e, ht'⟩ := xAu ht; clear ht; subst e; have ht := ht'; clear ht') | (obtain ⟨tm', e, ht'⟩ := xAj ht; clear ht; subst e; have ht := ht'; clear ht'))
        obtain rfl := xAy ht
        clear ht
        go_wp2_with (first | (refine' xAb hR rfl rfl rfl ?_; clear hR; intro blk w hR) | (refine' xAa hR rfl rfl inferInstance ?_; clear hR; intro blk w hR) | (refine' aFq hR rfl rfl rfl inferInstance ?_) | (refine' aGq hR rfl rfl rfl inferInstance ?_) | (refine' aHq hR rfl rfl rfl inferInstance ?_) | (refine' aDq hR rfl rfl rfl inferInstance rfl ?_; clear hR; intro w hR) | (refine' aEq hR rfl rfl rfl inferInstance rfl rfl ?_; clear hR; intro w hR) | (refine' xBs rfl rfl rfl hld ?_) | (go_at_call 84; refine (d1 _).mono ?_; rintro e w ⟨rfl, hb⟩; replace hR := hR.call hb; clear hb) | (go_at_call 86; refine (x2 _).mono ?_; rintro e w ⟨rfl, hb⟩; replace hR := hR.call hb; clear hb) | (go_at_call 74; refine (s1 _).mono ?_; rintro e w ⟨rfl, hb⟩; replace hR := hR.call hb; clear hb))
        refine xAf hR [0, 0, 0, 0, 0, 0] [] xBx (by kernel_rfl) rfl rfl (fun K hK => ?_)
        clear hR
        repeat ((first | (refine xBl ?_) | (refine' xAt (by decide) rfl (.inl rfl) rfl ?ha ?_) | (refine' xAt (by decide) rfl (.inr rfl) rfl ?ha ?_) | (refine' xAr rfl rfl rfl inferInstance ?hm ?hn ?ha ?_; (case hm => first | with_reducible assumption | repeat (first | exact .head _ | with_reducible assumption | apply mC)); (case hn => first | rfl | simp)) | (refine' xAo rfl rfl rfl inferInstance ?hm ?hv ?hn ?ha ?_; (case hm => first | with_reducible assumption | repeat (first | exact .head _ | with_reducible assumption | apply mC)); (case hv => first | with_reducible assumption | (simp only [kC, kD, kE, kF]; try rfl)); (case hn => first | rfl | simp)) | (refine' xAi rfl rfl rfl inferInstance ?hm ?hv ?ha ?_; (case hm => first | with_reducible assumption | repeat (first | exact .head _ | with_reducible assumption | apply mC)); (case hv => first | rfl | with_reducible assumption)) | (refine' xAv rfl rfl rfl inferInstance ?hm ?hv ?hn ?ha ?_; (case hm => first | with_reducible assumption | repeat (first | exact .head _ | with_reducible assumption | apply mC)); (case hv => first | with_reducible assumption | (simp only [kC, kD, kE, kF]; try rfl)); (case hn => first | rfl | simp)) | (refine' xAn rfl rfl rfl inferInstance ?hm ?hv ?ha ?_; (case hm => first | with_reducible assumption | repeat (first | exact .head _ | with_reducible assumption | apply mC)); (case hv => first | rfl | with_reducible assumption)) | ((first | refine' xAe (by decide) rfl rfl rfl rfl (fun w => ?hq) ?ha ?_ | refine' xBb (by decide) rfl rfl rfl rfl (fun w => ?hq) ?ha ?_ | refine' xAp (by decide) rfl rfl rfl (fun w => ?hq) ?ha ?_ | refine' xAd (by decide) rfl rfl rfl (fun w => ?hq) ?ha ?_ | refine' xAq (by decide) rfl rfl rfl (fun w => ?hq) ?ha ?_ | refine' xBa (by decide) rfl rfl rfl rfl (fun w => ?hq) ?ha ?_ | refine' xBf (by decide) rfl rfl rfl rfl rfl rfl (fun w => ?hq) ?ha ?_ | refine' xBd (by decide) rfl rfl (fun w => ?hq) ?ha ?_ | refine' xAw (by decide) rfl rfl rfl (fun w => ?hq) ?ha ?_ | refine' xBe (by decide) rfl rfl rfl (fun w => ?hq) ?ha ?_); (case hq => go_simp; try rfl)) | (refine' xAm (by decide) rfl rfl rfl ?ha ?_) | (refine' xBi (by decide) rfl rfl rfl rfl ?ha ?_) | (refine' xBk (by decide) rfl ?ha ?_) | (refine' xBc rfl rfl rfl (xBh Try.func87 (by kernel_rfl) (by kernel_rfl) _) (fun w => c1 w) ?ha ?_)); try (case ha => simp only [kP, kQ, kA, kB]; try rfl))
        refine xBp (hK _ _ ?_)
        clear hK K
        refine xBo (fun Q hQ => ?_)
        try simp only [List.nil_append, List.cons_append]
        repeat ((first | refine' xAx rfl (.inl rfl) rfl ?hk ?ha ?_ | refine' xAx rfl (.inr rfl) rfl ?hk ?ha ?_ | (refine' xAl rfl rfl rfl inferInstance rfl ?hs rfl rfl ?hn ?hk ?ha ?_; (case hs => repeat (first | exact xAs.head | apply xAs.tail)); (case hn => first | rfl | simp)) | (refine' xAh rfl rfl rfl inferInstance rfl rfl ?hs ?hn ?hl ?hk ?ha ?_; (case hs => repeat (first | exact xAs.head | apply xAs.tail)); (case hn => first | exact oD rfl | (show _ < 4; with_reducible assumption) | (simp; try omega)); (case hl => first | with_reducible assumption | (simp only [nl, kA, kB]; first | done | rfl) | rfl)) | (refine' xAk rfl rfl rfl inferInstance rfl rfl ?hvn ?hs ?hn ?hl ?hk ?ha ?_; (case hvn => first | rfl | simp); (case hs => repeat (first | exact xAs.head | apply xAs.tail)); (case hn => first | exact oD rfl | (show _ < 4; with_reducible assumption) | (simp; try omega)); (case hl => first | with_reducible assumption | (simp only [nl, kA, kB]; first | done | rfl) | rfl)) | (refine' xBj rfl (fun w => ?hq) ?hk ?ha ?_; (case hq => go_simp; try rfl))); (case hk => intro p hp; first | exact absurd hp List.not_mem_nil | (obtain rfl := List.mem_singleton.1 hp; repeat (first | exact List.Mem.head _ | with_reducible assumption | apply mC))); (case ha => simp only [kP, kQ, kA, kB]; try rfl))
        refine xBn (fun w hR => hQ _ _ ?_)
        clear hQ Q
        go_wp2_with (first | (refine' xAb hR rfl rfl rfl ?_; clear hR; intro blk w hR) | (refine' xAa hR rfl rfl inferInstance ?_; clear hR; intro blk w hR) | (refine' aFq hR rfl rfl rfl inferInstance ?_) | (refine' aGq hR rfl rfl rfl inferInstance ?_) | (refine' aHq hR rfl rfl rfl inferInstance ?_) | (refine' aDq hR rfl rfl rfl inferInstance rfl ?_; clear hR; intro w hR) | (refine' aEq hR rfl rfl rfl inferInstance rfl rfl ?_; clear hR; intro w hR) | fail)
        exact hK.out (i + 1) _ _ ⟨hi1.out, hg2.out⟩ hmu.out (xBg rfl rfl rfl) hR.drop1.drop1.drop1.drop1
      · have eb2 : eqN gc n1 = false := xBz gB L1 h1
        obtain rfl : s = false := by
          cases s
          · rfl
          · have := hs2.out.1 (hs.out.1 rfl) i (by omega)
            rw [hkey] at this
            exact absurd this h1
        clear hi hg hik hs hs2 hmr hsi hVi hni hdq hdr hde hy hz hgc hz1 hkey h1 q1 x1 m1 o1 hok htn hkc hcm h2 hn1 xB hlB dqB hyl hzl gB hnB htiB hK
        repeat (first | (obtain ⟨x, tm', e, ht'⟩ := xAu ht; clear ht; subst e; have ht := ht'; clear ht') | (obtain ⟨tm', e, ht'⟩ := xAj ht; clear ht; subst e; have ht := ht'; clear ht'))
        obtain rfl := xAy ht
        clear ht
        go_wp2_with (first | (refine' xAb hR rfl rfl rfl ?_; clear hR; intro blk w hR) | (refine' xAa hR rfl rfl inferInstance ?_; clear hR; intro blk w hR) | (refine' aFq hR rfl rfl rfl inferInstance ?_) | (refine' aGq hR rfl rfl rfl inferInstance ?_) | (refine' aHq hR rfl rfl rfl inferInstance ?_) | (refine' aDq hR rfl rfl rfl inferInstance rfl ?_; clear hR; intro w hR) | (refine' aEq hR rfl rfl rfl inferInstance rfl rfl ?_; clear hR; intro w hR) | (refine' xBs rfl rfl rfl hld ?_) | (go_at_call 84; refine (d1 _).mono ?_; rintro e w ⟨rfl, hb⟩; replace hR := hR.call hb; clear hb) | (go_at_call 86; refine (x2 _).mono ?_; rintro e w ⟨rfl, hb⟩; replace hR := hR.call hb; clear hb) | (go_at_call 74; refine (s1 _).mono ?_; rintro e w ⟨rfl, hb⟩; replace hR := hR.call hb; clear hb))
        refine xAf hR [0, 0, 0, 0, 0, 0] [] xBx (by kernel_rfl) rfl rfl (fun K hK => ?_)
        clear hR
        repeat ((first | (refine xBl ?_) | (refine' xAt (by decide) rfl (.inl rfl) rfl ?ha ?_) | (refine' xAt (by decide) rfl (.inr rfl) rfl ?ha ?_) | (refine' xAr rfl rfl rfl inferInstance ?hm ?hn ?ha ?_; (case hm => first | with_reducible assumption | repeat (first | exact .head _ | with_reducible assumption | apply mC)); (case hn => first | rfl | simp)) | (refine' xAo rfl rfl rfl inferInstance ?hm ?hv ?hn ?ha ?_; (case hm => first | with_reducible assumption | repeat (first | exact .head _ | with_reducible assumption | apply mC)); (case hv => first | with_reducible assumption | (simp only [kC, kD, kE, kF]; try rfl)); (case hn => first | rfl | simp)) | (refine' xAi rfl rfl rfl inferInstance ?hm ?hv ?ha ?_; (case hm => first | with_reducible assumption | repeat (first | exact .head _ | with_reducible assumption | apply mC)); (case hv => first | rfl | with_reducible assumption)) | (refine' xAv rfl rfl rfl inferInstance ?hm ?hv ?hn ?ha ?_; (case hm => first | with_reducible assumption | repeat (first | exact .head _ | with_reducible assumption | apply mC)); (case hv => first | with_reducible assumption | (simp only [kC, kD, kE, kF]; try rfl)); (case hn => first | rfl | simp)) | (refine' xAn rfl rfl rfl inferInstance ?hm ?hv ?ha ?_; (case hm => first | with_reducible assumption | repeat (first | exact .head _ | with_reducible assumption | apply mC)); (case hv => first | rfl | with_reducible assumption)) | ((first | refine' xAe (by decide) rfl rfl rfl rfl (fun w => ?hq) ?ha ?_ | refine' xBb (by decide) rfl rfl rfl rfl (fun w => ?hq) ?ha ?_ | refine' xAp (by decide) rfl rfl rfl (fun w => ?hq) ?ha ?_ | refine' xAd (by decide) rfl rfl rfl (fun w => ?hq) ?ha ?_ | refine' xAq (by decide) rfl rfl rfl (fun w => ?hq) ?ha ?_ | refine' xBa (by decide) rfl rfl rfl rfl (fun w => ?hq) ?ha ?_ | refine' xBf (by decide) rfl rfl rfl rfl rfl rfl (fun w => ?hq) ?ha ?_ | refine' xBd (by decide) rfl rfl (fun w => ?hq) ?ha ?_ | refine' xAw (by decide) rfl rfl rfl (fun w => ?hq) ?ha ?_ | refine' xBe (by decide) rfl rfl rfl (fun w => ?hq) ?ha ?_); (case hq => go_simp; try rfl)) | (refine' xAm (by decide) rfl rfl rfl ?ha ?_) | (refine' xBi (by decide) rfl rfl rfl rfl ?ha ?_) | (refine' xBk (by decide) rfl ?ha ?_) | (refine' xBc rfl rfl rfl (xBh Try.func87 (by kernel_rfl) (by kernel_rfl) _) (fun w => c1 w) ?ha ?_)); try (case ha => simp only [kP, kQ, kA, kB]; try rfl))
        refine xBp (hK _ _ ?_)
        clear hK K
        refine xBo (fun Q hQ => ?_)
        try simp only [List.nil_append, List.cons_append]
        repeat ((first | refine' xAx rfl (.inl rfl) rfl ?hk ?ha ?_ | refine' xAx rfl (.inr rfl) rfl ?hk ?ha ?_ | (refine' xAl rfl rfl rfl inferInstance rfl ?hs rfl rfl ?hn ?hk ?ha ?_; (case hs => repeat (first | exact xAs.head | apply xAs.tail)); (case hn => first | rfl | simp)) | (refine' xAh rfl rfl rfl inferInstance rfl rfl ?hs ?hn ?hl ?hk ?ha ?_; (case hs => repeat (first | exact xAs.head | apply xAs.tail)); (case hn => first | exact oD rfl | (show _ < 4; with_reducible assumption) | (simp; try omega)); (case hl => first | with_reducible assumption | (simp only [nl, kA, kB]; first | done | rfl) | rfl)) | (refine' xAk rfl rfl rfl inferInstance rfl rfl ?hvn ?hs ?hn ?hl ?hk ?ha ?_; (case hvn => first | rfl | simp); (case hs => repeat (first | exact xAs.head | apply xAs.tail)); (case hn => first | exact oD rfl | (show _ < 4; with_reducible assumption) | (simp; try omega)); (case hl => first | with_reducible assumption | (simp only [nl, kA, kB]; first | done | rfl) | rfl)) | (refine' xBj rfl (fun w => ?hq) ?hk ?ha ?_; (case hq => go_simp; try rfl))); (case hk => intro p hp; first | exact absurd hp List.not_mem_nil | (obtain rfl := List.mem_singleton.1 hp; repeat (first | exact List.Mem.head _ | with_reducible assumption | apply mC))); (case ha => simp only [kP, kQ, kA, kB]; try rfl))
        refine xBn (fun w hR => hQ _ _ ?_)
        clear hQ Q
        go_wp2_with (first | (refine' xAb hR rfl rfl rfl ?_; clear hR; intro blk w hR) | (refine' xAa hR rfl rfl inferInstance ?_; clear hR; intro blk w hR) | (refine' aFq hR rfl rfl rfl inferInstance ?_) | (refine' aGq hR rfl rfl rfl inferInstance ?_) | (refine' aHq hR rfl rfl rfl inferInstance ?_) | (refine' aDq hR rfl rfl rfl inferInstance rfl ?_; clear hR; intro w hR) | (refine' aEq hR rfl rfl rfl inferInstance rfl rfl ?_; clear hR; intro w hR) | fail)
        go_ret
        exact ⟨rfl, hR.drop1.drop1.drop1.drop1.drop1.drop1.drop1.drop1⟩
end
end Go.Proofs.Ytdagdfcbnhfdkaa
namespace Go.Proofs.Ytdagdfcbnhfdkaa
open Go.RowKit Go.ChangeShapes
theorem cells_rsn : Try.prog.cellsOf 27 = 9 := by kernel_rfl
theorem cells_parts : Try.prog.cellsOf 25 = 1 := by kernel_rfl
theorem cells_numR : Try.prog.cellsOf 24 = 4 := by kernel_rfl
theorem addr_plainR {W : World} {a : Addr} {v : Value} (hc0 : W.cell? (a.add 0) = some v) : ∃ bb off, a = ⟨bb, off, none⟩ ∧ bb < W.heap.size := by
  obtain ⟨bb, off, sp⟩ := a
  have hblk : bb < W.heap.size := by
    unfold World.cell? at hc0
    split at hc0
    · rename_i hh
      have hb := (Array.getElem?_eq_some_iff.1 hh).1
      have : ((⟨bb, off, sp⟩ : Addr).add 0).block = bb := by unfold Addr.add; split <;> rfl
      rw [this] at hb
      exact hb
    · cases hc0
  have hsp : sp = none := by
    cases sp with
    | none => rfl
    | some s =>
      have hs : ((⟨bb, off, some s⟩ : Addr).add 0).spot.isSome = true := by unfold Addr.add; split <;> simp_all
      unfold World.cell? at hc0
      split at hc0
      · rw [if_pos hs] at hc0; cases hc0
      · cases hc0
  subst hsp
  exact ⟨bb, off, rfl, hblk⟩
theorem addr_noneR (bb off j : Nat) : ((⟨bb, off, none⟩ : Addr).add j) = ⟨bb, off + j, none⟩ := by
  unfold Addr.add; split <;> simp_all
theorem row9 {l : List Value} (hl : l.length = 9) {n t : Nat} {v : Value} (e0 : (l.drop 0).take 4 = nl n) (e1 : (l.drop 4).take 4 = nl t) (e2 : (l.drop 8).take 1 = [v]) : l = rrow n t v := by
  have h : l = (l.drop 0).take 4 ++ ((l.drop 4).take 4 ++ (l.drop 8).take 1) := by
    have t1 : (l.drop 8).take 1 = l.drop 8 := List.take_of_length_le (by simp; omega)
    have t2 : (l.drop 4).take 4 ++ l.drop 8 = l.drop 4 := by
      have : l.drop 8 = (l.drop 4).drop 4 := by rw [List.drop_drop]
      rw [this, List.take_append_drop]
    rw [t1, t2, List.drop_zero, List.take_append_drop]
  rw [h, e0, e1, e2]
  rfl
theorem list3R {α : Type} (l : List α) (h : l.length = 3) : ∃ a b c, l = [a, b, c] := by
  match l, h with
  | [a, b, c], _ => exact ⟨a, b, c, rfl⟩
set_option maxRecDepth 100000 in
theorem trod_reason {H : Type} {enc : TypeId × Value → H} {W : World} {base : Nat} {sp : Nat → Bool} {held : Bool} (fuel : Nat) : ∀ {l : List Value} {y : DataW H × List MemPlace}, l.length = 9 → DataW.trod enc Try.prog W base sp held fuel 27 l = some y → ∃ r, RAt W.heap.size W [] r l := by
  induction fuel using Nat.strongRecOn with
  | _ fuel ih =>
    intro l y hl hf
    obtain ⟨xs, m, rfl, hx, _, hn, hi⟩ := DataW.trod_struct Try.underlying27 hf
    obtain ⟨x0, x1, x2, rfl⟩ := list3R xs hn
    have h0 : DataW.trod enc Try.prog W base sp held m 24 ((l.drop 0).take (Try.prog.cellsOf 24)) = some x0 := hi 0 _ rfl
    have h1 : DataW.trod enc Try.prog W base sp held m 24 ((l.drop 4).take (Try.prog.cellsOf 24)) = some x1 := hi 1 _ rfl
    have h2 : DataW.trod enc Try.prog W base sp held m 25 ((l.drop 8).take (Try.prog.cellsOf 25)) = some x2 := hi 2 _ rfl
    rw [cells_numR] at h0 h1
    rw [cells_parts] at h2
    obtain ⟨n, ln, en, _⟩ := trod_numG (by simp; omega) h0
    obtain ⟨t, lt, et, _⟩ := trod_numG (by simp; omega) h1
    rcases DataW.trod_slice Try.underlying25 h2 with ⟨hv, _⟩ | ⟨a, len, cap, elems, rest, q, hq, hv, _, _, hlc, hcm, hlen, hel, _, _⟩
    · refine ⟨.node n t 0 fun _ => .leaf, ln, lt, none, 0, fun _ => [], row9 hl en et hv, Nat.le_refl _, Nat.zero_le _, fun h => absurd rfl h, fun j hj => absurd hj (Nat.not_lt_zero j)⟩
    · rw [cells_rsn] at hel
      have each : ∀ j, j < len → ∃ r, ∃ cs : List Value, RAt W.heap.size W [] r cs ∧ cs.length = 9 ∧ ∀ k, k < 9 → W.cell? ((a.add (j * 9)).add k) = cs[k]? := fun j hj => by
        have h3 := hel j hj
        rw [List.getElem?_eq_getElem (by omega), Option.bind_eq_some_iff] at h3
        obtain ⟨cs, hc, ht⟩ := h3
        obtain ⟨_, c2, c3⟩ := World.cells?_some hc
        obtain ⟨r, hr⟩ := ih q (by omega) c2 ht
        exact ⟨r, cs, hr, c2, c3⟩
      classical
      obtain ⟨ps, V, hps⟩ : ∃ (ps : Nat → RT) (V : Nat → List Value), ∀ j, j < len → RAt W.heap.size W [] (ps j) (V j) ∧ (V j).length = 9 ∧ ∀ k, k < 9 → W.cell? ((a.add (j * 9)).add k) = (V j)[k]? := by
        refine ⟨fun j => if hj : j < len then (each j hj).choose else .leaf, fun j => if hj : j < len then (each j hj).choose_spec.choose else [], fun j hj => ?_⟩
        simp only [dif_pos hj]
        exact (each j hj).choose_spec.choose_spec
      refine ⟨.node n t len ps, ln, lt, some a, cap, V, row9 hl en et hv, hlc, hcm, fun h0 => ?_, fun j hj => (hps j hj).1⟩
      have hpos : 0 < len := by omega
      obtain ⟨_, l0, hc0⟩ := hps 0 hpos
      have hc0 := hc0 0 (by decide)
      rw [List.getElem?_eq_getElem (by omega), Nat.zero_mul] at hc0
      have ea : (a.add 0).add 0 = a.add 0 := by unfold Addr.add; split <;> simp_all
      rw [ea] at hc0
      obtain ⟨bb, off, rfl, hblk⟩ := addr_plainR hc0
      refine ⟨bb, off, rfl, fun w hw j hj k v hk => ?_⟩
      obtain ⟨_, lj, hcj⟩ := hps j hj
      have hk9 : k < 9 := by
        have := (List.getElem?_eq_some_iff.1 hk).1
        omega
      have := hcj k hk9
      rw [addr_noneR, addr_noneR] at this
      rw [hw.below.cell (p := ⟨bb, off + j * 9 + k, none⟩) hblk, this, hk]
end Go.Proofs.Ytdagdfcbnhfdkaa
