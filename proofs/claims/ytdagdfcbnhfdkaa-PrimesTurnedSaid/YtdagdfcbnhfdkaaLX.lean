/- The contracts of balefirelaw01.TwinReasons and TwinReason: the walks. -/
import Derived.Test.YtdagdfcbnhfdkaaLR
import Derived.Deep.Cut
import Derived.Test.YtdagdfcbnhfdkaaLP
import Derived.Test.YtdagdfcbnhfdkaaLN
set_option linter.unusedVariables false
set_option linter.unusedSimpArgs false
namespace Go.Proofs.Ytdagdfcbnhfdkaa
open Go.RowKit
attribute [local irreducible] Calls Instr.build Instr.buildSlice
theorem seg_take {α : Type} {l : List α} {a b n : Nat} (h : a + b ≤ n) : ((l.take n).drop a).take b = (l.drop a).take b := by
  rw [List.drop_take, List.take_take, Nat.min_eq_left (by omega)]
theorem seg_old {α : Type} {cur cur' row : List α} {i j : Nat} (hc : cur'.take ((i + 1) * 9) = cur.take (i * 9) ++ row) (hl : i * 9 ≤ cur.length) (hj : j < i) : (cur'.drop (j * 9)).take 9 = (cur.drop (j * 9)).take 9 := by
  have h1 : j * 9 + 9 ≤ (i + 1) * 9 := by omega
  have h2 : j * 9 + 9 ≤ i * 9 := by omega
  rw [← seg_take h1, hc, List.drop_append_of_le_length (by rw [List.length_take]; omega), List.take_append_of_le_length (by rw [List.length_drop, List.length_take]; omega), seg_take h2]
theorem seg_new {α : Type} {cur cur' row : List α} {i : Nat} (hc : cur'.take ((i + 1) * 9) = cur.take (i * 9) ++ row) (hl : i * 9 ≤ cur.length) (hr : row.length = 9) : (cur'.drop (i * 9)).take 9 = row := by
  have h1 : i * 9 + 9 ≤ (i + 1) * 9 := by omega
  have h2 : (cur.take (i * 9)).length = i * 9 := by rw [List.length_take]; omega
  rw [← seg_take h1, hc, List.drop_append, h2, List.drop_of_length_le (by omega), Nat.sub_self, List.drop_zero, List.nil_append, List.take_of_length_le (by omega)]
theorem build_spare (n : Nat) (w : World) : (Instr.build 27 #[(0, .agg (nl n).toArray)]).run Try.prog w = .ok (.agg (rrow n 0 (.slice none 0 0)).toArray) w := build_r1 n w
theorem wpList_build1P {P : Program} {ops : Array Oper} {rest : List Oper} {o : Oper} {a : Act} {w : World} {Q : Exit → Act → World → Prop} (hg : o.guard = none) {t : TypeId} {x : Operand} (hop : o.op = .build t #[(0, x)]) {vx v : Value} (hx : ev a x = some vx)
    (hrun : ∀ w, (Instr.build t #[(0, vx)]).run P w = .ok v w) (h : wpList P ops Q rest (a.put o.dst v) w) : wpList P ops Q (o :: rest) a w :=
  wpList_plain hg fun _ hK => by
    have hx := xBm hx
    unfold Oper.wp execOp
    simp only [hop, List.map_toArray, List.map_cons, List.map_nil, hx, hrun, Sem.run_bind, Result.andThen_ok, Sem.run_pure]
    exact hK _ _ h
theorem yields_build3 {B0 : Nat} {w0 : World} {L : List (Nat × Obj)} {ops : Array Oper} {o : Oper} {a : Act} (hg : o.guard = none) {t : TypeId} {x y z : Operand} (hop : o.op = .build t #[(0, x), (1, y), (2, z)]) {vx vy vz v : Value} (hx : ev a x = some vx) (hy : ev a y = some vy) (hz : ev a z = some vz)
    (hrun : ∀ w, (Instr.build t #[(0, vx), (1, vy), (2, vz)]).run Try.prog w = .ok v w) : xBt Try.prog ops o v a (Rep B0 w0 L) (Rep B0 w0 L) :=
  .inl ⟨wanted_of hg _, fun w hR => by
    have hx := xBm hx
    have hy := xBm hy
    have hz := xBm hz
    unfold execOp
    simp only [hop, List.map_toArray, List.map_cons, List.map_nil, hx, hy, hz, hrun, Sem.run_bind, Result.andThen_ok, Sem.run_pure]
    exact ⟨rfl, hR⟩⟩
theorem Rep.permT {B0 : Nat} {w0 w : World} {L L' : List (Nat × Obj)} (h : Rep B0 w0 L w) (hp : L.Perm L') : Rep B0 w0 L' w :=
  ⟨h.below, h.le, fun p hp' => h.own p (hp.mem_iff.2 hp'), (hp.map _).nodup_iff.1 h.uniq⟩
def TwinOut (B0 : Nat) (w0 : World) (L : List (Nat × Obj)) (r : RT) (e : Ending) (w' : World) : Prop := ∃ M l, e = .returned (.agg (List.toArray l)) ∧ TwAt M r l ∧ Rep B0 w0 (M ++ L) w'
structure TwL (k : Nat) (p : Nat → RT) (g cap : Nat) (cur : List Value) (V : Nat → List Value) (M : List (Nat × Obj)) : Prop where
  le : k + 1 ≤ cap
  big : cap ≤ maxLen
  len : cur.length = cap * 9
  row : ∀ j, j < k → (cur.drop (j * 9)).take 9 = V j
  spare : (cur.drop (k * 9)).take 9 = rrow 77 0 (.slice none 0 0)
  part : ∀ j, j < k → TwAt M (p j) (V j)
structure TwR where
  i : Nat
  g : Nat
  cap : Nat
  cur : List Value
  V : Nat → List Value
  M : List (Nat × Obj)
def TwROk (k : Nat) (p : Nat → RT) (x : TwR) : Prop := x.i ≤ k ∧ x.i ≤ x.cap ∧ x.cap ≤ maxLen ∧ x.cur.length = x.cap * 9 ∧ (∀ j, j < x.i → (x.cur.drop (j * 9)).take 9 = x.V j) ∧ ∀ j, j < x.i → TwAt x.M (p j) (x.V j)
section
variable {B0 : Nat} {w0 : World}
theorem rrow_cells (n t : Nat) (a : Option Addr) (k c : Nat) : ∀ u ∈ rrow n t (.slice a k c), u.oneCell' = true := fun u hu => List.all_eq_true.1 (rr_one n t a k c) u hu
set_option maxRecDepth 100000 in
set_option maxHeartbeats 8000000 in
theorem twins_go (n t k : Nat) (p : Nat → RT) (a : Option Addr) (cap : Nat) {L : List (Nat × Obj)} {w : World} (hr : RAt B0 w0 [] (.node n t k p) (rrow n t (.slice a k cap))) (hk : k ≤ 1599289640354)
    (ih : ∀ i, i < k → ∀ {w : World} {l : List Value} {L : List (Nat × Obj)}, RAt B0 w0 [] (p i) l → Rep B0 w0 L w → Calls Try.prog 15 #[.agg l.toArray] w fun e w' => TwinOut B0 w0 L (p i) e w') (hR : Rep B0 w0 L w) :
    Calls Try.prog 46 #[.slice a k cap] w fun e w' => ∃ g cap, e = .returned (.slice (some ⟨g, 0, none⟩) k cap) ∧ ∃ cur V M, TwL k p g cap cur V M ∧ Rep B0 w0 ((g, .cells cur.toArray 27) :: (M ++ L)) w' := by
  obtain ⟨_, _, a', cap', V, hrr, hkc, hcm, hmem, hsub⟩ := hr
  have ha : (Value.slice a k cap) = .slice a' k cap' := by
    have := congrArg (fun l => l[8]?) hrr
    exact Option.some.inj this
  obtain ⟨rfl, rfl⟩ : a = a' ∧ cap = cap' := by
    injection ha with h1 h2 h3
    exact ⟨h1, h3⟩
  clear hrr ha
  obtain ⟨k1, hk1⟩ : ∃ x, k + 1 = x := ⟨_, rfl⟩
  have f1 : IntKind.i64.wrap ((k : Int) + 1) = (k1 : Int) := by rw [IntKind.wrap_i64]; omega
  obtain ⟨l0, hl0, hmk⟩ := make_rsn k1 (by omega)
  replace hmem := Held.mk hmem
  replace hsub := Held.mk hsub
  replace ih := Held.mk ih
  replace hk1 := Held.mk hk1
  go_enter Try.func46, Try.ntmps46
  go_wp2_with (first | (refine' xAg hR rfl rfl rfl ?_; clear hR; intro blk w hR) | (refine' xAb hR rfl rfl inferInstance ?_; clear hR; intro blk w hR) | (refine' xAf hR rfl rfl rfl inferInstance ?hm ?hn ?_; (case hm => first | with_reducible assumption | repeat (first | exact .head _ | with_reducible assumption | apply mC)); (case hn => first | rfl | simp)) | (refine' xAe hR rfl rfl rfl inferInstance ?hm ?hv ?hn ?_; (case hm => first | with_reducible assumption | repeat (first | exact .head _ | with_reducible assumption | apply mC)); (case hv => first | with_reducible assumption | (simp only [kC, kD, kE, kF]; try rfl)); (case hn => first | rfl | simp)) | (refine' xAc hR rfl rfl rfl inferInstance ?hm ?hv ?_; (case hm => first | with_reducible assumption | repeat (first | exact .head _ | with_reducible assumption | apply mC)); (case hv => first | rfl | with_reducible assumption)) | (refine' xAd hR rfl rfl rfl inferInstance rfl ?hs ?zone ?zvn ?hn ?_; (case hs => repeat (first | exact xAh.head | apply xAh.tail)); (case zone => first | rfl | with_reducible assumption); (case zvn => first | rfl | simp); (case hn => first | rfl | simp); clear hR; intro w hR) | (refine' xAa hR rfl rfl rfl inferInstance rfl rfl ?hs ?hn ?hl ?_; (case hs => repeat (first | exact xAh.head | apply xAh.tail)); (case hn => first | exact oD rfl | (show _ < 4; with_reducible assumption) | (simp; try omega)); (case hl => first | with_reducible assumption | (simp only [nl, kA, kB]; first | done | rfl) | rfl); clear hR; intro w hR) | (refine' wpList_makeRep hR rfl rfl rfl rfl hmk ?_; clear hR; intro blk w hR))
  refine' loop_whileP (false :: false :: false :: false :: false :: false :: false :: false :: false :: true :: true :: true :: true :: true :: true :: true :: true :: true :: true :: true :: true :: true :: true :: false :: false :: false :: false :: false :: false :: false :: false :: []) (fun (x : TwR) l => (l.set 3 (.slice (some ⟨x.g, 0, none⟩) x.i x.cap)).set 4 (.int .i64 (x.i : Int))) (fun x => (x.g, .cells x.cur.toArray 27) :: (x.M ++ L)) (fun x => k - x.i) (TwROk k p) ⟨0, blk, k1, l0, fun _ => [], []⟩ ?h0 ?hO ?hR ?hs
  case h0 => exact xBl rfl rfl rfl
  case hO => exact ⟨Nat.zero_le _, Nat.zero_le _, by show k1 ≤ maxLen; unfold maxLen; have := hk1.out; omega, hl0, fun j h => absurd h (Nat.not_lt_zero j), fun j h => absurd h (Nat.not_lt_zero j)⟩
  case hR => exact hR
  case hs =>
    clear hR hl0 hmk
    intro x tm w hO ht hR K hK
    obtain ⟨i, g, gcap, cur, V2, M⟩ := x
    obtain ⟨hi, ble, bbig, blen, brow, bpart⟩ := hO
    simp only at hi ble bbig blen brow bpart ht hR
    have g0 : 0 ≤ (i : Int) := by omega
    have hil : i * 9 ≤ cur.length := by rw [blen]; exact Nat.mul_le_mul_right 9 ble
    have hbig : i ≤ 1599289640354 := by omega
    replace brow := Held.mk brow
    replace bpart := Held.mk bpart
    replace hil := Held.mk hil
    by_cases hik : i = k
    · subst hik
      clear hK
      have t1 : ¬ (i : Int) < (i : Int) := by omega
      replace blen := Held.mk blen
      repeat (first | (obtain ⟨x, tm', e, ht'⟩ := xBd ht; clear ht; subst e; have ht := ht'; clear ht') | (obtain ⟨tm', e, ht'⟩ := xBa ht; clear ht; subst e; have ht := ht'; clear ht'))
      obtain rfl := xBf ht
      clear ht
      go_wp2_with (first | (refine' xAg hR rfl rfl rfl ?_; clear hR; intro blk w hR) | (refine' xAb hR rfl rfl inferInstance ?_; clear hR; intro blk w hR) | (refine' xAf hR rfl rfl rfl inferInstance ?hm ?hn ?_; (case hm => first | with_reducible assumption | repeat (first | exact .head _ | with_reducible assumption | apply mC)); (case hn => first | rfl | simp)) | (refine' xAe hR rfl rfl rfl inferInstance ?hm ?hv ?hn ?_; (case hm => first | with_reducible assumption | repeat (first | exact .head _ | with_reducible assumption | apply mC)); (case hv => first | with_reducible assumption | (simp only [kC, kD, kE, kF]; try rfl)); (case hn => first | rfl | simp)) | (refine' xAc hR rfl rfl rfl inferInstance ?hm ?hv ?_; (case hm => first | with_reducible assumption | repeat (first | exact .head _ | with_reducible assumption | apply mC)); (case hv => first | rfl | with_reducible assumption)) | (refine' xAd hR rfl rfl rfl inferInstance rfl ?hs ?zone ?zvn ?hn ?_; (case hs => repeat (first | exact xAh.head | apply xAh.tail)); (case zone => first | rfl | with_reducible assumption); (case zvn => first | rfl | simp); (case hn => first | rfl | simp); clear hR; intro w hR) | (refine' xAa hR rfl rfl rfl inferInstance rfl rfl ?hs ?hn ?hl ?_; (case hs => repeat (first | exact xAh.head | apply xAh.tail)); (case hn => first | exact oD rfl | (show _ < 4; with_reducible assumption) | (simp; try omega)); (case hl => first | with_reducible assumption | (simp only [nl, kA, kB]; first | done | rfl) | rfl); clear hR; intro w hR) | (refine' wpList_build1P rfl rfl rfl build_77 ?_) | (refine' wpList_build1P rfl rfl rfl (build_spare 77) ?_) | (refine' wpList_rsnNew hR rfl rfl rfl ?_; clear hR; intro bs w hR) | (refine' wpList_appendRsn hR rfl rfl rfl rfl ble bbig blen.out rfl (rrow_cells _ _ _ _ _) hbig ?_; clear hR; intro g' cap' cur' w hR c1 c2 c3 c4; have c5 : (i : Int) ≤ (cap' : Int) := Int.ofNat_le.2 (Nat.le_of_succ_le c1); have c6 : ¬ cap' = 0 := fun h => Nat.not_succ_le_zero i (h ▸ c1)))
      go_ret
      refine ⟨g', cap', rfl, cur', V2, M, ⟨c1, c2, c3, fun j hj => ?_, seg_new c4 hil.out rfl, bpart.out⟩, hR⟩
      rw [seg_old c4 hil.out hj]
      exact brow.out j hj
    · have g1 : (i : Int) < (k : Int) := by omega
      have hik' : i < k := by omega
      obtain ⟨bb, off, rfl, hmr⟩ := hmem.out (by omega)
      have hsi := hsub.out i hik'
      have hld := xCe (hmr w (hR.weaken (List.nil_sublist _)) i hik') hsi.len
      have ci := fun (L' : List (Nat × Obj)) (w : World) (hR : Rep B0 w0 L' w) => ih.out i hik' hsi hR
      generalize V i = vi at *
      have e1 : IntKind.i64.wrap ((i : Int) + 1) = (i : Int) + 1 := by rw [IntKind.wrap_i64]; omega
      have ek : ((i + 1 : Nat) : Int) = (i : Int) + 1 := by omega
      replace ek := Held.mk ek
      replace blen := Held.mk blen
      clear hsi hmr hmem hsub ih hkc hcm
      repeat (first | (obtain ⟨x, tm', e, ht'⟩ := xBd ht; clear ht; subst e; have ht := ht'; clear ht') | (obtain ⟨tm', e, ht'⟩ := xBa ht; clear ht; subst e; have ht := ht'; clear ht'))
      obtain rfl := xBf ht
      clear ht
      go_wp2_with (first | (refine' xAg hR rfl rfl rfl ?_; clear hR; intro blk w hR) | (refine' xAb hR rfl rfl inferInstance ?_; clear hR; intro blk w hR) | (refine' xAf hR rfl rfl rfl inferInstance ?hm ?hn ?_; (case hm => first | with_reducible assumption | repeat (first | exact .head _ | with_reducible assumption | apply mC)); (case hn => first | rfl | simp)) | (refine' xAe hR rfl rfl rfl inferInstance ?hm ?hv ?hn ?_; (case hm => first | with_reducible assumption | repeat (first | exact .head _ | with_reducible assumption | apply mC)); (case hv => first | with_reducible assumption | (simp only [kC, kD, kE, kF]; try rfl)); (case hn => first | rfl | simp)) | (refine' xAc hR rfl rfl rfl inferInstance ?hm ?hv ?_; (case hm => first | with_reducible assumption | repeat (first | exact .head _ | with_reducible assumption | apply mC)); (case hv => first | rfl | with_reducible assumption)) | (refine' xAd hR rfl rfl rfl inferInstance rfl ?hs ?zone ?zvn ?hn ?_; (case hs => repeat (first | exact xAh.head | apply xAh.tail)); (case zone => first | rfl | with_reducible assumption); (case zvn => first | rfl | simp); (case hn => first | rfl | simp); clear hR; intro w hR) | (refine' xAa hR rfl rfl rfl inferInstance rfl rfl ?hs ?hn ?hl ?_; (case hs => repeat (first | exact xAh.head | apply xAh.tail)); (case hn => first | exact oD rfl | (show _ < 4; with_reducible assumption) | (simp; try omega)); (case hl => first | with_reducible assumption | (simp only [nl, kA, kB]; first | done | rfl) | rfl); clear hR; intro w hR) | (refine' xCa rfl rfl rfl hld ?_) | (go_at_call 15; refine (ci _ _ hR).mono ?_; clear hR ci; rintro e w ⟨M1, l1, rfl, htw, hR⟩; obtain ⟨t1, a1, k1', c1', hl1, _, _⟩ := htw.row; subst hl1; replace htw := Held.mk htw; replace hR := hR.permT List.perm_middle; rw [← List.append_assoc] at hR) | (refine' wpList_rsnNew hR rfl rfl rfl ?_; clear hR; intro bs w hR) | (refine' wpList_appendRsn hR rfl rfl rfl rfl ble bbig blen.out rfl (rrow_cells _ _ _ _ _) hbig ?_; clear hR; intro g' cap' cur' w hR c1 c2 c3 c4))
      refine hK.out ⟨i + 1, g', cap', cur', fun j => if j = i then rrow (p i).num t1 (.slice a1 k1' c1') else V2 j, M1 ++ M⟩ _ _ ⟨by show i + 1 ≤ k; omega, c1, c2, c3, fun j hj => ?_, fun j hj => ?_⟩ (by show k - (i + 1) < k - i; omega) (by simp only [ek.out]; exact xBl rfl rfl rfl) hR
      · show (cur'.drop (j * 9)).take 9 = if j = i then _ else V2 j
        by_cases hji : j = i
        · rw [if_pos hji, hji]
          exact seg_new c4 hil.out rfl
        · have hj' : j < i + 1 := hj
          rw [if_neg hji, seg_old c4 hil.out (by omega)]
          exact brow.out j (by omega)
      · show TwAt (M1 ++ M) (p j) (if j = i then _ else V2 j)
        by_cases hji : j = i
        · rw [if_pos hji, hji]
          exact htw.out.mono fun p hp => List.mem_append_left _ hp
        · have hj' : j < i + 1 := hj
          rw [if_neg hji]
          exact (bpart.out j (by omega)).mono fun p hp => List.mem_append_right _ hp
end
end Go.Proofs.Ytdagdfcbnhfdkaa
namespace Go.Proofs.Ytdagdfcbnhfdkaa
open Go.RowKit
attribute [local irreducible] Calls Instr.build Instr.buildSlice
section
variable {B0 : Nat} {w0 : World}
set_option maxRecDepth 100000 in
set_option maxHeartbeats 8000000 in
theorem twin_any (r : RT) : ∀ {w : World} {l : List Value} {L : List (Nat × Obj)}, SmallT r → RAt B0 w0 [] r l → Rep B0 w0 L w → Calls Try.prog 15 #[.agg l.toArray] w fun e w' => TwinOut B0 w0 L r e w' := by
  induction r with
  | leaf => intro w l L _ h; exact h.elim
  | node n t k p ih =>
    intro w l L hs hr hR
    obtain ⟨hk, hs⟩ := hs
    obtain ⟨hn, ht, a, cap, V0, hrr, hrest⟩ := hr
    have hr : RAt B0 w0 [] (.node n t k p) (rrow n t (.slice a k cap)) := ⟨hn, ht, a, cap, V0, rfl, hrest⟩
    clear hrest
    subst hrr
    have tm : ∀ (L' : List (Nat × Obj)) (w : World), Rep B0 w0 L' w → Calls Try.prog 46 #[.slice a k cap] w fun e w' => ∃ v, e = .returned v ∧ outW B0 w0 (fun v M' => ∃ g cap' cur V M, v = .slice (some ⟨g, 0, none⟩) k cap' ∧ TwL k p g cap' cur V M ∧ M' = (g, Obj.cells cur.toArray 27) :: (L' ++ M)) v w' := fun L' w hR =>
      (twins_go n t k p a cap hr hk (fun i hi => ih i (hs i hi)) hR).mono fun e w' ⟨g, cap', he, cur, V, M, ho, hR⟩ => ⟨_, he, _, ⟨g, cap', cur, V, M, rfl, ho, rfl⟩, hR.permT (List.Perm.cons _ List.perm_append_comm)⟩
    have tn := rr_n n t (.slice a k cap)
    have tt := rr_t n t (.slice a k cap)
    have tv := rr_v n t (.slice a k cap)
    clear hr ih hs
    go_enter Try.func15, Try.ntmps15
    go_upto_region 1 with (first | (refine' xAg hR rfl rfl rfl ?_; clear hR; intro blk w hR) | (refine' xAb hR rfl rfl inferInstance ?_; clear hR; intro blk w hR) | (refine' xAf hR rfl rfl rfl inferInstance ?hm ?hn ?_; (case hm => first | with_reducible assumption | repeat (first | exact .head _ | with_reducible assumption | apply mC)); (case hn => first | rfl | simp)) | (refine' xAe hR rfl rfl rfl inferInstance ?hm ?hv ?hn ?_; (case hm => first | with_reducible assumption | repeat (first | exact .head _ | with_reducible assumption | apply mC)); (case hv => first | with_reducible assumption | (simp only [kC, kD, kE, kF]; try rfl)); (case hn => first | rfl | simp)) | (refine' xAc hR rfl rfl rfl inferInstance ?hm ?hv ?_; (case hm => first | with_reducible assumption | repeat (first | exact .head _ | with_reducible assumption | apply mC)); (case hv => first | rfl | with_reducible assumption)) | (refine' xAd hR rfl rfl rfl inferInstance rfl ?hs ?zone ?zvn ?hn ?_; (case hs => repeat (first | exact xAh.head | apply xAh.tail)); (case zone => first | rfl | with_reducible assumption); (case zvn => first | rfl | simp); (case hn => first | rfl | simp); clear hR; intro w hR) | (refine' xAa hR rfl rfl rfl inferInstance rfl rfl ?hs ?hn ?hl ?_; (case hs => repeat (first | exact xAh.head | apply xAh.tail)); (case hn => first | exact oD rfl | (show _ < 4; with_reducible assumption) | (simp; try omega)); (case hl => first | with_reducible assumption | (simp only [nl, kA, kB]; first | done | rfl) | rfl); clear hR; intro w hR) | fail)
    try simp only [Act.put, kA, kB, List.setIfInBounds_toArray]
    rename_i b1 u1 K0 kz
    obtain ⟨b2, hb2⟩ : ∃ x, x = blk := ⟨_, rfl⟩
    subst hb2
    refine wp_region_F hR 9 mixed rfl ?_
    clear hR
    refine fHeads [(b1, .cells (rrow n t (.slice a k cap)).toArray 27)] [1, 1, 1, 1, 1, 1, 2, 2, 2] 3 rfl (by repeat (first | exact xBw | refine xBq (by repeat (first | exact .head _ | with_reducible assumption | apply mC)) ?_)) (by repeat (first | exact xBw | refine xBq (by repeat (first | exact .head _ | with_reducible assumption | apply mC)) ?_)) rfl (by decide +kernel) (fun K hK => ?_)
    repeat ((first | (refine xBo ?_) | (refine' xAz (by decide) rfl (.inl rfl) rfl ?ha ?_) | (refine' xAz (by decide) rfl (.inr rfl) rfl ?ha ?_) | (refine' xAy rfl rfl rfl inferInstance ?hm ?hn ?ha ?_; (case hm => first | with_reducible assumption | repeat (first | exact .head _ | with_reducible assumption | apply mC)); (case hn => first | rfl | simp)) | (refine' xAr rfl rfl rfl inferInstance ?hm ?hv ?hn ?ha ?_; (case hm => first | with_reducible assumption | repeat (first | exact .head _ | with_reducible assumption | apply mC)); (case hv => first | with_reducible assumption | (simp only [kC, kD, kE, kF]; try rfl)); (case hn => first | rfl | simp)) | (refine' xAn rfl rfl rfl inferInstance ?hm ?hv ?ha ?_; (case hm => first | with_reducible assumption | repeat (first | exact .head _ | with_reducible assumption | apply mC)); (case hv => first | rfl | with_reducible assumption)) | (refine' xAs rfl rfl rfl inferInstance ?hm ?hv ?hn ?ha ?_; (case hm => first | with_reducible assumption | repeat (first | exact .head _ | with_reducible assumption | apply mC)); (case hv => first | with_reducible assumption | (simp only [kC, kD, kE, kF]; try rfl)); (case hn => first | rfl | simp)) | (refine' xAl rfl rfl rfl inferInstance ?hm ?hv ?ha ?_; (case hm => first | with_reducible assumption | repeat (first | exact .head _ | with_reducible assumption | apply mC)); (case hv => first | rfl | with_reducible assumption)) | ((first | refine' xAj (by decide) rfl rfl rfl rfl (fun w => ?hq) ?ha ?_ | refine' xBh (by decide) rfl rfl rfl rfl (fun w => ?hq) ?ha ?_ | refine' xAw (by decide) rfl rfl rfl (fun w => ?hq) ?ha ?_ | refine' xAi (by decide) rfl rfl rfl (fun w => ?hq) ?ha ?_ | refine' xAv (by decide) rfl rfl rfl (fun w => ?hq) ?ha ?_ | refine' xBi (by decide) rfl rfl rfl rfl (fun w => ?hq) ?ha ?_ | refine' xBe (by decide) rfl rfl rfl rfl rfl rfl (fun w => ?hq) ?ha ?_ | refine' xBj (by decide) rfl rfl (fun w => ?hq) ?ha ?_ | refine' xAx (by decide) rfl rfl rfl (fun w => ?hq) ?ha ?_ | refine' xBg (by decide) rfl rfl rfl (fun w => ?hq) ?ha ?_); (case hq => go_simp; try rfl)) | (refine' xAm (by decide) rfl rfl rfl ?ha ?_) | (refine' xBp (by decide) rfl rfl rfl rfl ?ha ?_) | (refine' xBn (by decide) rfl ?ha ?_) | fail); try (case ha => simp only [kP, kQ, kA, kB]; try rfl))
    refine xBx (hK _ _ ?_)
    clear hK K
    refine f_at [6] (by decide +kernel) rfl ?_
    refine f_is 6 ?_
    refine f_call _ rfl rfl rfl rfl rfl (xBr Try.func46 (by kernel_rfl) (by kernel_rfl) _) (fun w hw => tm _ w hw) (fun v M' hM => ?_) f_nil
    obtain ⟨g, cap', cur, V, M, rfl, ho, rfl⟩ := hM
    replace ho := Held.mk ho
    simp only [List.cons_append]
    refine ⟨(by repeat (first | exact xBw | refine xBq (by repeat (first | exact .head _ | apply mC)) ?_)), ?_⟩
    simp only [Act.put, kA, kB, List.setIfInBounds_toArray]
    refine f_at [7] (by decide +kernel) rfl ?_
    refine f_is 7 ?_
    refine f_y rfl rfl (yields_build3 rfl rfl rfl rfl rfl (build_rsn _ _ _ _ _)) (by repeat (first | exact xBw | refine xBq (by repeat (first | exact .head _ | apply mC)) ?_)) ?_ f_nil
    simp only [Act.put, kA, kB, List.setIfInBounds_toArray]
    refine f_at [8] (by decide +kernel) rfl ?_
    refine f_is 8 ?_
    refine f_s rfl rfl (yields_storeAll rfl rfl rfl inferInstance rfl rfl rfl rfl (by repeat (first | exact xAh.head | apply xAh.tail))) (by repeat (first | exact xBw | refine xBq (by repeat (first | exact .head _ | apply mC)) ?_)) ?_ f_nil
    refine f_end (by decide +kernel) (fun w hR => ?_)
    simp only [Exit.then]
    refine kz _ _ (wp_ret ?_)
    refine bodyPost_ret (xBy Try.results15 rfl (hR.loadAll (P := Try.prog) (ty := 27) (t := 27) (l := rrow n t (.slice (some ⟨g, 0, none⟩) k cap')) (.tail _ (.head _)) rfl)) rfl ?_
    refine ⟨(g, .cells cur.toArray 27) :: M, rrow n t (.slice (some ⟨g, 0, none⟩) k cap'), rfl, ⟨hn, ht, g, cap', cur, V, rfl, ho.out.le, ho.out.big, ho.out.len, .head _, ho.out.row, ho.out.spare, fun j hj => (ho.out.part j hj).mono fun p hp => .tail _ hp⟩, ?_⟩
    exact (hR.weaken ((List.sublist_append_right [_, _] _).cons_cons _)).permT (.cons _ List.perm_append_comm)
end
end Go.Proofs.Ytdagdfcbnhfdkaa
namespace Go.Proofs.Ytdagdfcbnhfdkaa
open Go.RowKit
attribute [local irreducible] Calls Instr.build Instr.buildSlice
end Go.Proofs.Ytdagdfcbnhfdkaa
namespace Go.Proofs.Ytdagdfcbnhfdkaa
open Go.RowKit
attribute [local irreducible] Calls Instr.build Instr.buildSlice
section
variable {B0 : Nat} {w0 w : World} {L : List (Nat × Obj)}
theorem appR_new (hR : Rep B0 w0 L w) {ty : TypeId} {ad : Addr} {m c : Nat} {news : List Value} (hm : 0 < m) (hb : m ≤ 1000000) (hl : news.length = m * 9) (hnews : ∀ j u, news[j]? = some u → w.cell? (ad.add j) = some u) (h1 : ∀ u ∈ news, u.oneCell' = true) :
    ∃ g cap, ∃ cur : List Value, ∃ w', (Builtin.append_ #[25, 25] ty #[.slice none 0 0, .slice (some ad) m c]).run Try.prog w = .ok (.slice (some ⟨g, 0, none⟩) m cap) w' ∧ Rep B0 w0 ((g, .cells cur.toArray 27) :: L) w' ∧ m ≤ cap ∧ cap ≤ maxLen ∧ cur.length = cap * 9 ∧ cur.take (m * 9) = news := by
  obtain ⟨i, z, hi, hz, hzs, hsize, hby⟩ := info_rsnP
  obtain ⟨v', w', hr, hO, hgr, hiff, hat⟩ := run_append_own_at (P := Try.prog) w B0 25 ty 27 i z 9 88 Try.underlying25 hi hz hsize hby hzs (by decide) (.slice none 0 0) 0 [] ⟨rfl, .inl ⟨rfl, rfl⟩⟩ ad m c news hl hnews h1 (by unfold maxLen; omega) (by omega) hR.le
  obtain ⟨hl', ⟨hv, _⟩ | ⟨g', cap', cur', rfl, hB, hh, k2, k3, k4, k5⟩⟩ := hO
  · have := (hiff.1 hv).2
    omega
  · have hR' := hR.grow' hgr (fun r hr => by cases hr)
    have hR2 := hR'.add' hB hh (fun p hp e => by
      rcases hat with hat | hat
      · cases hat
      · have hgg : g' = w.heap.size := Option.some.inj hat
        have := hR.lt hp
        omega)
    rw [Nat.zero_add] at hr k2 k5
    exact ⟨g', cap', cur'.toList, w', hr, by simpa using hR2, k2, k3, by simpa using k4, by simpa using k5⟩
theorem appR_own {g cap n : Nat} {cur : List Value} (hR : Rep B0 w0 ((g, .cells cur.toArray 27) :: L) w) {ty : TypeId} {ad : Addr} {m c : Nat} {news : List Value} (hn : n ≤ cap) (hc : cap ≤ maxLen) (hcl : cur.length = cap * 9) (hb : n + m ≤ 1000000) (hl : news.length = m * 9) (hnews : ∀ j u, news[j]? = some u → w.cell? (ad.add j) = some u) (h1 : ∀ u ∈ news, u.oneCell' = true) :
    ∃ g' cap', ∃ cur' : List Value, ∃ w', (Builtin.append_ #[25, 25] ty #[.slice (some ⟨g, 0, none⟩) n cap, .slice (some ad) m c]).run Try.prog w = .ok (.slice (some ⟨g', 0, none⟩) (n + m) cap') w' ∧ Rep B0 w0 ((g', .cells cur'.toArray 27) :: L) w' ∧ n + m ≤ cap' ∧ cap' ≤ maxLen ∧ cur'.length = cap' * 9 ∧ cur'.take ((n + m) * 9) = cur.take (n * 9) ++ news := by
  obtain ⟨i, z, hi, hz, hzs, hsize, hby⟩ := info_rsnP
  obtain ⟨v', w', hr, hO, hgr, hiff, hat⟩ := run_append_own_at (P := Try.prog) w B0 25 ty 27 i z 9 88 Try.underlying25 hi hz hsize hby hzs (by decide) (.slice (some ⟨g, 0, none⟩) n cap) n (cur.take (n * 9))
    ⟨by rw [List.length_take, hcl]; have := Nat.mul_le_mul_right 9 hn; omega, .inr ⟨g, cap, cur.toArray, rfl, (hR.own _ (.head _)).1, (hR.own _ (.head _)).2, hn, hc, by simpa using hcl, by simp⟩⟩ ad m c news hl hnews h1 (by unfold maxLen; omega) (by omega) hR.le
  obtain ⟨hl', ⟨hv, _⟩ | ⟨g', cap', cur', rfl, hB, hh, k2, k3, k4, k5⟩⟩ := hO
  · have := (hiff.1 hv).1
    cases this
  · have hR' := hR.drop1.grow' hgr (fun r hr => by
      obtain rfl : g = r := Option.some.inj hr
      exact ⟨(hR.own _ (.head _)).1, hR.apart⟩)
    have hR2 := hR'.add' hB hh (fun p hp e => by
      rcases hat with hat | hat
      · have hgg : g' = g := Option.some.inj hat
        exact hR.apart p hp (e.trans hgg)
      · have hgg : g' = w.heap.size := Option.some.inj hat
        have := hR.lt (.tail _ hp)
        omega)
    exact ⟨g', cap', cur'.toList, w', hr, by simpa using hR2, k2, k3, by simpa using k4, by simpa using k5⟩
end
section
variable {ops : Array Oper} {B0 : Nat} {w0 : World} {Kp : List (Nat × Obj)} {Q : Exit → Act → World → Prop} {L L0 : List (Nat × Obj)}
theorem f_app0 {N : Nat} {listed : Array Bool} {a : Act} {i : Nat} {r : List Nat} {oi : Oper} {di : Tmp} {s x : Operand} {ad : Addr} {m c : Nat} {news : List Value} (hoi : ops[i]? = some oi) (hdi : oi.dst = some di) (hg : oi.guard = none)
    (hop : oi.op = .call { callee := .builtin .append, args := #[s, x], argTypes := #[25, 25] }) (hs : ev a s = some (.slice none 0 0)) (hx : ev a x = some (.slice (some ad) m c))
    (hm : 0 < m) (hb : m ≤ 1000000) (hl : news.length = m * 9) (hnews : ∀ w, Rep B0 w0 L w → ∀ j u, news[j]? = some u → w.cell? (ad.add j) = some u) (h1 : ∀ u ∈ news, u.oneCell' = true) (hk : ∀ p, p ∈ Kp → p ∈ L)
    (h : ∀ g cap, ∀ cur : List Value, m ≤ cap → cap ≤ maxLen → cur.length = cap * 9 → cur.take (m * 9) = news → wpAnyF Try.prog ops B0 w0 Kp Q N (listed.setIfInBounds i true) (a.put (some di) (.slice (some ⟨g, 0, none⟩) m cap)) ((g, .cells cur.toArray 27) :: L))
    (hr : stepsF Try.prog ops B0 w0 Kp Q N listed a L r) : stepsF Try.prog ops B0 w0 Kp Q N listed a L (i :: r) := by
  rw [← hdi] at h
  refine ⟨⟨oi, hoi, fun v M => ∃ g cap, ∃ cur : List Value, v = .slice (some ⟨g, 0, none⟩) m cap ∧ m ≤ cap ∧ cap ≤ maxLen ∧ cur.length = cap * 9 ∧ cur.take (m * 9) = news ∧ M = (g, .cells cur.toArray 27) :: L, .inl ⟨wanted_of hg _, fun w hw => ?_⟩, fun v M ⟨g, cap, cur, hv, k1, k2, k3, k4, hM⟩ => ?_⟩, hr⟩
  · obtain ⟨g, cap, cur, w', hrun, hR', k1, k2, k3, k4⟩ := appR_new hw (ty := oi.type) (c := c) hm hb hl (hnews w hw) h1
    have hs := xBm hs
    have hx := xBm hx
    unfold execOp
    simp only [hop, resolve, invoke, builtin, Sem.run_bind, Sem.run_pure, Result.andThen_ok, List.map_toArray, List.map_cons, List.map_nil, hs, hx, hrun]
    exact ⟨_, ⟨g, cap, cur, rfl, k1, k2, k3, k4, rfl⟩, hR'⟩
  · subst hv hM
    exact ⟨fun p hp => .tail _ (hk p hp), h g cap cur k1 k2 k3 k4⟩
theorem f_app1 {N : Nat} {listed : Array Bool} {a : Act} {i : Nat} {r : List Nat} {oi : Oper} {di : Tmp} {s x : Operand} {ad : Addr} {g cap n m c : Nat} {cur news : List Value} (hoi : ops[i]? = some oi) (hdi : oi.dst = some di) (hg : oi.guard = none)
    (hop : oi.op = .call { callee := .builtin .append, args := #[s, x], argTypes := #[25, 25] }) (hs : ev a s = some (.slice (some ⟨g, 0, none⟩) n cap)) (hx : ev a x = some (.slice (some ad) m c))
    (hL : L.Perm ((g, .cells cur.toArray 27) :: L0)) (hn : n ≤ cap) (hc : cap ≤ maxLen) (hcl : cur.length = cap * 9) (hb : n + m ≤ 1000000) (hl : news.length = m * 9) (hnews : ∀ w, Rep B0 w0 L w → ∀ j u, news[j]? = some u → w.cell? (ad.add j) = some u) (h1 : ∀ u ∈ news, u.oneCell' = true) (hk : ∀ p, p ∈ Kp → p ∈ L0)
    (h : ∀ g' cap', ∀ cur' : List Value, n + m ≤ cap' → cap' ≤ maxLen → cur'.length = cap' * 9 → cur'.take ((n + m) * 9) = cur.take (n * 9) ++ news → wpAnyF Try.prog ops B0 w0 Kp Q N (listed.setIfInBounds i true) (a.put (some di) (.slice (some ⟨g', 0, none⟩) (n + m) cap')) ((g', .cells cur'.toArray 27) :: L0))
    (hr : stepsF Try.prog ops B0 w0 Kp Q N listed a L r) : stepsF Try.prog ops B0 w0 Kp Q N listed a L (i :: r) := by
  rw [← hdi] at h
  refine ⟨⟨oi, hoi, fun v M => ∃ g cap, ∃ cur' : List Value, v = .slice (some ⟨g, 0, none⟩) (n + m) cap ∧ n + m ≤ cap ∧ cap ≤ maxLen ∧ cur'.length = cap * 9 ∧ cur'.take ((n + m) * 9) = cur.take (n * 9) ++ news ∧ M = (g, .cells cur'.toArray 27) :: L0, .inl ⟨wanted_of hg _, fun w hw => ?_⟩, fun v M ⟨g, cap, cur', hv, k1, k2, k3, k4, hM⟩ => ?_⟩, hr⟩
  · obtain ⟨g', cap', cur', w', hrun, hR', k1, k2, k3, k4⟩ := appR_own (hw.permT hL) (ty := oi.type) (c := c) hn hc hcl hb hl (hnews w hw) h1
    have hs := xBm hs
    have hx := xBm hx
    unfold execOp
    simp only [hop, resolve, invoke, builtin, Sem.run_bind, Sem.run_pure, Result.andThen_ok, List.map_toArray, List.map_cons, List.map_nil, hs, hx, hrun]
    exact ⟨_, ⟨g', cap', cur', rfl, k1, k2, k3, k4, rfl⟩, hR'⟩
  · subst hv hM
    exact ⟨fun p hp => .tail _ (hk p hp), h g cap cur' k1 k2 k3 k4⟩
end
end Go.Proofs.Ytdagdfcbnhfdkaa
namespace Go.Proofs.Ytdagdfcbnhfdkaa
open Go.RowKit
def rowsR (V : Nat → List Value) : Nat → List Value
  | 0 => []
  | n + 1 => rowsR V n ++ V n
theorem rowsR_len {V : Nat → List Value} : ∀ n, (∀ j, j < n → (V j).length = 9) → (rowsR V n).length = n * 9
  | 0, _ => by rw [Nat.zero_mul]; rfl
  | n + 1, h => by
    show (rowsR V n ++ V n).length = _
    rw [List.length_append, rowsR_len n (fun j hj => h j (by omega)), h n (by omega)]
    omega
theorem rowsR_at {V : Nat → List Value} : ∀ n, (∀ j, j < n → (V j).length = 9) → ∀ j, j < n → ((rowsR V n).drop (j * 9)).take 9 = V j
  | 0, _, j, hj => absurd hj (Nat.not_lt_zero j)
  | n + 1, h, j, hj => by
    have hl := rowsR_len n (fun j hj => h j (by omega))
    show ((rowsR V n ++ V n).drop (j * 9)).take 9 = V j
    by_cases hjn : j < n
    · rw [List.drop_append_of_le_length (by rw [hl]; omega), List.take_append_of_le_length (by rw [List.length_drop, hl]; omega)]
      exact rowsR_at n (fun j hj => h j (by omega)) j hjn
    · obtain rfl : j = n := by omega
      rw [← hl, List.drop_left, List.take_of_length_le (by rw [h j (by omega)]; exact Nat.le_refl _)]
theorem rowsR_one {V : Nat → List Value} : ∀ n, (∀ j, j < n → ∀ u ∈ V j, u.oneCell' = true) → ∀ u ∈ rowsR V n, u.oneCell' = true
  | 0, _, u, hu => nomatch hu
  | n + 1, h, u, hu => by
    rcases List.mem_append.1 (show u ∈ rowsR V n ++ V n from hu) with hu | hu
    · exact rowsR_one n (fun j hj => h j (by omega)) u hu
    · exact h n (by omega) u hu
theorem rowsR_cell {w : World} {bb o : Nat} {V : Nat → List Value} : ∀ n, (∀ j, j < n → (V j).length = 9) → (∀ j, j < n → w.rangeAt bb (o + j * 9) (V j)) → ∀ i u, (rowsR V n)[i]? = some u → w.cell? ((⟨bb, o, none⟩ : Addr).add i) = some u
  | 0, _, _, i, u, hu => by cases hu
  | n + 1, h, hr, i, u, hu => by
    have hl := rowsR_len n (fun j hj => h j (by omega))
    have hu : (rowsR V n ++ V n)[i]? = some u := hu
    by_cases hi : i < n * 9
    · rw [List.getElem?_append_left (by rw [hl]; exact hi)] at hu
      exact rowsR_cell n (fun j hj => h j (by omega)) (fun j hj => hr j (by omega)) i u hu
    · rw [List.getElem?_append_right (by rw [hl]; omega), hl] at hu
      have := hr n (by omega) (i - n * 9) u hu
      rw [addr_noneR]
      rw [show o + i = o + n * 9 + (i - n * 9) by omega]
      exact this
theorem own_cell {B0 : Nat} {w0 w : World} {L : List (Nat × Obj)} {b : Nat} {l : List Value} {t : TypeId} (hw : Rep B0 w0 L w) (hm : (b, Obj.cells l.toArray t) ∈ L) {j : Nat} {u : Value} (hj : l[j]? = some u) : w.cell? ((⟨b, 0, none⟩ : Addr).add j) = some u := by
  rw [addr_noneR, Nat.zero_add]
  exact hw.cell hm hj
theorem RAt.one {B0 : Nat} {w0 : World} {L : List (Nat × Obj)} {r : RT} {l : List Value} (h : RAt B0 w0 L r l) : ∀ u ∈ l, u.oneCell' = true := by
  obtain ⟨t, a, k, c, rfl, _, _⟩ := h.row
  exact rrow_cells _ _ _ _ _
theorem isNew_rsn1 {o : Oper} {a : Act} {x : Operand} {n t k c : Nat} {pa : Option Addr} (hg : o.guard = none) (hop : o.op = .buildSlice 25 1 #[(0, x)]) (hx : ev a x = some (.agg (rrow n t (.slice pa k c)).toArray)) : IsNew Try.prog o a (.cells (rrow n t (.slice pa k c)).toArray 27) (fun b => .slice (some ⟨b, 0, none⟩) 1 1) :=
  ⟨hg, fun w => by
    unfold execOp
    simp only [hop, List.map_toArray, List.map_cons, List.map_nil, xBm hx, rsn_new, Sem.run_bind, Result.andThen_ok, Sem.run_pure]⟩
section
variable {ops : Array Oper} {o : Oper} {a : Act} {B0 : Nat} {w0 : World} {L L' : List (Nat × Obj)}
theorem yields_storeCell (hg : o.guard = none) {ty : TypeId} {x y : Operand} (hop : o.op = .store ty x y) {b off : Nat} (hx : ev a x = some (.pointer (some ⟨b, off, none⟩))) (hT : CellT Try.prog ty) {l l' : List Value} {v : Value} {t : TypeId}
    (hy : ev a y = some v) (h1 : v.oneCell' = true) (hn : off < l.length) (hl : l.set off v = l') (hs : xAh L b (.cells l.toArray t) (.cells l'.toArray t) L') : xBt Try.prog ops o undef a (Rep B0 w0 L) (Rep B0 w0 L') :=
  .inl ⟨wanted_of hg _, fun w hR => by
    have hx := xBm hx
    have hy := xBm hy
    obtain ⟨w', e, hR'⟩ := hR.storeCell (P := Try.prog) (ty := ty) (off := off) h1 hs hn hl
    unfold execOp
    simp only [hop, hx, hy, Instr.storeAt, Instr.sureAddr, Sem.run_bind, Sem.run_pure, Result.andThen_ok, e]
    exact ⟨rfl, hR'⟩⟩
theorem yields_field (hg : o.guard = none) {ty : TypeId} {x : Operand} {n : Nat} (hop : o.op = .fieldAddr ty x n) {v u : Value} (hx : ev a x = some v) (hrun : ∀ w, (Instr.fieldAt ty v n).run Try.prog w = .ok u w) : xBt Try.prog ops o u a (Rep B0 w0 L) (Rep B0 w0 L) :=
  .inl ⟨wanted_of hg _, fun w hR => by
    have hx := xBm hx
    have e : (execOp a.eval o).run Try.prog w = .ok (.value u) w := by
      unfold execOp
      simp only [hop, hx]
      exact ok_value _ (hrun w)
    rw [e]
    exact ⟨rfl, hR⟩⟩
end
end Go.Proofs.Ytdagdfcbnhfdkaa
namespace Go.Proofs.Ytdagdfcbnhfdkaa
open Go.RowKit
theorem turn_big {n t k : Nat} {p : Nat → RT} (h : goodR (.node n t k p)) (hk : 0 < k) : 4294967296 ≤ n ∧ n < B ∧ ∀ i, i < k → i = 0 ∨ (p (i - 1)).num < (p i).num := by
  rcases h with ⟨_, _, _, h⟩ | ⟨h1, h2, h3, _⟩
  · omega
  · exact ⟨h1, h2, fun i hi => (h3 i hi).2.1⟩
theorem rise_no {n t k c : Nat} {p : Nat → RT} (hc : c + 1 < k) (h1 : (p (c + 1)).num ≤ (p c).num) : ¬ goodR (.node n t k p) := fun h => by
  rcases (turn_big h (by omega)).2.2 (c + 1) hc with h2 | h2
  · omega
  · rw [Nat.add_sub_cancel] at h2
    omega
theorem wit_no {n t k : Nat} {p : Nat → RT} (hn : 4294967296 ≤ n) (ht : t ≤ 1 ∨ n ≤ t) : ¬ goodR (.node n t k p) := fun h => by
  rcases h with ⟨h, _⟩ | ⟨_, _, _, _, h1, h2, _⟩
  · omega
  · omega
def twiceP (p : Nat → RT) (c j : Nat) : RT := if j ≤ c then p j else p (j - 1)
theorem twice_no {n t k c : Nat} {p : Nat → RT} (hc : c < k) : ¬ goodR (.node n t (k + 1) (twiceP p c)) :=
  rise_no (c := c) (by omega) (by
    unfold twiceP
    rw [if_neg (by omega), if_pos (Nat.le_refl _), Nat.add_sub_cancel]
    exact Nat.le_refl _)
def turnedP (p : Nat → RT) (c j : Nat) : RT := if j = c + 1 then p c else if j = c then p (c + 1) else p j
theorem turned_no {n t k c : Nat} {p : Nat → RT} (h : goodR (.node n t k p)) (hc : c + 1 < k) : ¬ goodR (.node n t k (turnedP p c)) :=
  rise_no (c := c) hc (by
    unfold turnedP
    rw [if_pos rfl, if_neg (by omega), if_pos rfl]
    rcases (turn_big h (by omega)).2.2 (c + 1) hc with h2 | h2
    · omega
    · rw [Nat.add_sub_cancel] at h2
      omega)
end Go.Proofs.Ytdagdfcbnhfdkaa
namespace Go.Proofs.Ytdagdfcbnhfdkaa
open Go.RowKit
theorem rowsR_congr {V U : Nat → List Value} : ∀ n, (∀ j, j < n → V j = U j) → rowsR V n = rowsR U n
  | 0, _ => rfl
  | n + 1, h => by
    show rowsR V n ++ V n = rowsR U n ++ U n
    rw [rowsR_congr n (fun j hj => h j (by omega)), h n (by omega)]
theorem rowsR_add (V : Nat → List Value) (a : Nat) : ∀ b, rowsR V (a + b) = rowsR V a ++ rowsR (fun j => V (a + j)) b
  | 0 => (List.append_nil _).symm
  | b + 1 => by
    show rowsR V (a + b) ++ V (a + b) = rowsR V a ++ (rowsR (fun j => V (a + j)) b ++ V (a + b))
    rw [rowsR_add V a b, List.append_assoc]
theorem twice_at {B0 : Nat} {w0 : World} {L : List (Nat × Obj)} {n t k c c1 d g cap : Nat} {p : Nat → RT} {V : Nat → List Value} {cur1 cur2 cur3 : List Value} (hn : n < B) (ht : t < B) (hc1 : c + 1 = c1) (hd : c1 + d = k) (hsub : ∀ j, j < k → RAt B0 w0 [] (p j) (V j))
    (q4 : cur1.take (c1 * 9) = rowsR V c1) (s4 : cur2.take ((c1 + 1) * 9) = cur1.take (c1 * 9) ++ V c) (v1 : c1 + 1 + d ≤ cap) (v2 : cap ≤ maxLen) (v3 : cur3.length = cap * 9) (v4 : cur3.take ((c1 + 1 + d) * 9) = cur2.take ((c1 + 1) * 9) ++ rowsR (fun j => V (c1 + j)) d)
    (hg : (g, Obj.cells cur3.toArray 27) ∈ L) : RAt B0 w0 L (.node n t (k + 1) (twiceP p c)) (rrow n t (.slice (some ⟨g, 0, none⟩) (c1 + 1 + d) cap)) := by
  subst hc1
  have hk : c + 1 + 1 + d = k + 1 := by omega
  rw [hk] at v1 v4 ⊢
  obtain ⟨U, hU⟩ : ∃ U : Nat → List Value, U = fun j => if j ≤ c then V j else V (j - 1) := ⟨_, rfl⟩
  have u1 : ∀ j, j ≤ c → U j = V j := fun j h => by rw [hU]; exact if_pos h
  have u2 : ∀ j, ¬ j ≤ c → U j = V (j - 1) := fun j h => by rw [hU]; exact if_neg h
  have lU : ∀ j, j < k + 1 → (U j).length = 9 := fun j hj => by
    by_cases h : j ≤ c
    · rw [u1 j h]; exact (hsub j (by omega)).len
    · rw [u2 j h]; exact (hsub (j - 1) (by omega)).len
  have hall : cur3.take ((k + 1) * 9) = rowsR U (k + 1) := by
    rw [v4, s4, q4, ← hk, rowsR_add U (c + 1 + 1) d]
    have e1 : rowsR U (c + 1 + 1) = rowsR V (c + 1) ++ V c := by
      show rowsR U (c + 1) ++ U (c + 1) = _
      rw [rowsR_congr (c + 1) (fun j hj => u1 j (by omega)), u2 (c + 1) (by omega), Nat.add_sub_cancel]
    rw [e1, rowsR_congr d (fun j hj => by
      show V (c + 1 + j) = U (c + 1 + 1 + j)
      rw [u2 _ (by omega), show c + 1 + 1 + j - 1 = c + 1 + j by omega])]
  refine ⟨hn, ht, _, cap, U, rfl, v1, v2, fun _ => ⟨g, 0, rfl, fun w hw j hj => ?_⟩, fun j hj => ?_⟩
  · rw [Nat.zero_add]
    refine hw.rangeAt (n := 9) hg ?_
    rw [← seg_take (n := (k + 1) * 9) (by omega), hall]
    exact rowsR_at (k + 1) lU j hj
  · unfold twiceP
    by_cases h : j ≤ c
    · rw [if_pos h, u1 j h]; exact (hsub j (by omega)).any
    · rw [if_neg h, u2 j h]; exact (hsub (j - 1) (by omega)).any
end Go.Proofs.Ytdagdfcbnhfdkaa
namespace Go.Proofs.Ytdagdfcbnhfdkaa
open Go.RowKit
def putR (l : List Value) (i : Nat) (vs : List Value) : List Value := l.take (i * 9) ++ vs ++ l.drop (i * 9 + 9)
theorem putR_len {l vs : List Value} {i cap : Nat} (hl : l.length = cap * 9) (hi : i < cap) (hv : vs.length = 9) : (putR l i vs).length = cap * 9 := by
  unfold putR
  rw [List.length_append, List.length_append, List.length_take, List.length_drop, hl, hv]
  have := Nat.mul_le_mul_right 9 (show i + 1 ≤ cap by omega)
  omega
theorem putR_at {l vs : List Value} {i cap : Nat} (hl : l.length = cap * 9) (hi : i < cap) (hv : vs.length = 9) (j : Nat) : ((putR l i vs).drop (j * 9)).take 9 = if j = i then vs else (l.drop (j * 9)).take 9 := by
  have h9 := Nat.mul_le_mul_right 9 (show i + 1 ≤ cap by omega)
  have ht : (l.take (i * 9)).length = i * 9 := by rw [List.length_take, hl]; omega
  unfold putR
  refine List.ext_getElem? fun q => ?_
  by_cases hq : q < 9
  · rw [List.getElem?_take, if_pos hq, List.getElem?_drop]
    by_cases hj : j = i
    · subst hj
      rw [if_pos rfl, List.getElem?_append_left (by rw [List.length_append, ht, hv]; omega), List.getElem?_append_right (by rw [ht]; omega), ht, Nat.add_sub_cancel_left]
    · rw [if_neg hj, List.getElem?_take, if_pos hq, List.getElem?_drop]
      by_cases hlt : j < i
      · rw [List.getElem?_append_left (by rw [List.length_append, ht, hv]; omega), List.getElem?_append_left (by rw [ht]; omega), List.getElem?_take, if_pos (by omega)]
      · rw [List.getElem?_append_right (by rw [List.length_append, ht, hv]; omega), List.length_append, ht, hv, List.getElem?_drop]
        congr 1
        omega
  · rw [List.getElem?_take, if_neg hq]
    symm
    by_cases hj : j = i
    · rw [if_pos hj]; exact List.getElem?_eq_none (by omega)
    · rw [if_neg hj, List.getElem?_take, if_neg hq]
section
variable {ops : Array Oper} {o : Oper} {a : Act} {B0 : Nat} {w0 : World} {L L' : List (Nat × Obj)}
theorem yields_storeR (hg : o.guard = none) {x y : Operand} (hop : o.op = .store 27 x y) {b i cap : Nat} (hx : ev a x = some (.pointer (some ⟨b, i * 9, none⟩))) {l vs : List Value} {t : TypeId}
    (hy : ev a y = some (.agg vs.toArray)) (h1 : vs.all (·.oneCell') = true) (hvn : vs.length = 9) (hl : l.length = cap * 9) (hi : i < cap) (hs : xAh L b (.cells l.toArray t) (.cells (putR l i vs).toArray t) L') : xBt Try.prog ops o undef a (Rep B0 w0 L) (Rep B0 w0 L') :=
  .inl ⟨wanted_of hg _, fun w hR => by
    have hx := xBm hx
    have hy := xBm hy
    have h9 := Nat.mul_le_mul_right 9 (show i + 1 ≤ cap by omega)
    obtain ⟨w', e, hR'⟩ := hR.storeRow (P := Try.prog) (ty := 27) (off := i * 9) h1 hvn hs (by rw [hl]; omega) rfl
    unfold execOp
    simp only [hop, hx, hy, Instr.storeAt, Instr.sureAddr, Sem.run_bind, Sem.run_pure, Result.andThen_ok, e]
    exact ⟨rfl, hR'⟩⟩
end
theorem wpList_storeWit {P : Program} {ops : Array Oper} {rest : List Oper} {o : Oper} {a : Act} {Q : Exit → Act → World → Prop} {B0 : Nat} {w0 w : World} {L L' : List (Nat × Obj)} [hT : RowT P 24 4] (hR : Rep B0 w0 L w) (hg : o.guard = none) {x y : Operand} (ho : o.op = .store 24 x y) {b s n t : Nat} {v : Value} {ty : TypeId} (hx : a.eval x = .pointer (some ⟨b, 4, none⟩)) (hy : a.eval y = num s)
    (hs : xAh L b (.cells (rrow n t v).toArray ty) (.cells (rrow n s v).toArray ty) L') (h : ∀ w', Rep B0 w0 L' w' → wpList P ops Q rest (a.put o.dst undef) w') : wpList P ops Q (o :: rest) a w :=
  wpList_storeRow hR hg ho hx hT (vs := nl s) hy rfl rfl hs (by rw [rrow_length]; decide) rfl h
theorem turned_at {B0 : Nat} {w0 : World} {L M : List (Nat × Obj)} {n t k c g cap : Nat} {p : Nat → RT} {V Vt : Nat → List Value} {cur : List Value} (hn : n < B) (ht : t < B) (hk : k ≤ cap) (hcap : cap ≤ maxLen) (hl : cur.length = cap * 9) (hc : c + 1 < k)
    (hsub : ∀ j, j < k → RAt B0 w0 [] (p j) (V j)) (hrow : ∀ j, j < k → (cur.drop (j * 9)).take 9 = Vt j) (hM : ∀ q, q ∈ M → q ∈ L) (htw : ∀ j, j < k → TwAt M (p j) (Vt j))
    (hg : (g, Obj.cells (putR (putR cur (c + 1) (V c)) c (V (c + 1))).toArray 27) ∈ L) : RAt B0 w0 L (.node n t k (turnedP p c)) (rrow n t (.slice (some ⟨g, 0, none⟩) k cap)) := by
  have l1 := (hsub c (by omega)).len
  have l2 := (hsub (c + 1) hc).len
  have hl1 := putR_len hl (show c + 1 < cap by omega) l1
  refine ⟨hn, ht, _, cap, fun j => if j = c + 1 then V c else if j = c then V (c + 1) else Vt j, rfl, hk, hcap, fun _ => ⟨g, 0, rfl, fun w hw j hj => ?_⟩, fun j hj => ?_⟩
  · rw [Nat.zero_add]
    refine hw.rangeAt (n := 9) hg ?_
    rw [putR_at hl1 (by omega) l2, putR_at hl (by omega) l1]
    show _ = if j = c + 1 then V c else if j = c then V (c + 1) else Vt j
    by_cases h1 : j = c + 1
    · rw [if_neg (by omega), if_pos h1, if_pos h1]
    · by_cases h2 : j = c
      · rw [if_pos h2, if_neg h1, if_pos h2]
      · rw [if_neg h2, if_neg h1, if_neg h1, if_neg h2, hrow j hj]
  · show RAt B0 w0 L (turnedP p c j) (if j = c + 1 then V c else if j = c then V (c + 1) else Vt j)
    unfold turnedP
    by_cases h1 : j = c + 1
    · rw [if_pos h1, if_pos h1]; exact (hsub c (by omega)).any
    · rw [if_neg h1, if_neg h1]
      by_cases h2 : j = c
      · rw [if_pos h2, if_pos h2]; exact (hsub (c + 1) hc).any
      · rw [if_neg h2, if_neg h2]; exact tw_at hM (htw j hj)
end Go.Proofs.Ytdagdfcbnhfdkaa
namespace Go.Proofs.Ytdagdfcbnhfdkaa
open Go.RowKit
attribute [local irreducible] Calls Instr.build Instr.buildSlice
section
variable {B0 : Nat} {w0 : World}
set_option maxRecDepth 100000 in
set_option maxHeartbeats 8000000 in
theorem twin_node (n t k : Nat) (p : Nat → RT) {w : World} {a : Option Addr} {cap : Nat} {L : List (Nat × Obj)} (hs : SmallT (.node n t k p)) (hr : RAt B0 w0 [] (.node n t k p) (rrow n t (.slice a k cap))) (hR : Rep B0 w0 L w) : Calls Try.prog 15 #[.agg (rrow n t (.slice a k cap)).toArray] w fun e w' =>
    ∃ g cap', ∃ cur : List Value, ∃ V M, e = .returned (.agg (rrow n t (.slice (some ⟨g, 0, none⟩) k cap')).toArray) ∧ TwL k p g cap' cur V M ∧ Rep B0 w0 ((g, .cells cur.toArray 27) :: (M ++ L)) w' := by
  obtain ⟨hk, hs⟩ := hs
  have hnt := hr
  obtain ⟨hn, ht, _⟩ := hnt
  have tm : ∀ (L' : List (Nat × Obj)) (w : World), Rep B0 w0 L' w → Calls Try.prog 46 #[.slice a k cap] w fun e w' => ∃ v, e = .returned v ∧ outW B0 w0 (fun v M' => ∃ g cap' cur V M, v = .slice (some ⟨g, 0, none⟩) k cap' ∧ TwL k p g cap' cur V M ∧ M' = (g, Obj.cells cur.toArray 27) :: (L' ++ M)) v w' := fun L' w hR =>
    (twins_go n t k p a cap hr hk (fun i hi {w l L} h1 h2 => twin_any (p i) (hs i hi) h1 h2) hR).mono fun e w' ⟨g, cap', he, cur, V, M, ho, hR⟩ => ⟨_, he, _, ⟨g, cap', cur, V, M, rfl, ho, rfl⟩, hR.permT (List.Perm.cons _ List.perm_append_comm)⟩
  have tn := rr_n n t (.slice a k cap)
  have tt := rr_t n t (.slice a k cap)
  have tv := rr_v n t (.slice a k cap)
  clear hr hs
  go_enter Try.func15, Try.ntmps15
  go_upto_region 1 with (first | (refine' xAg hR rfl rfl rfl ?_; clear hR; intro blk w hR) | (refine' xAb hR rfl rfl inferInstance ?_; clear hR; intro blk w hR) | (refine' xAf hR rfl rfl rfl inferInstance ?hm ?hn ?_; (case hm => first | with_reducible assumption | repeat (first | exact .head _ | with_reducible assumption | apply mC)); (case hn => first | rfl | simp)) | (refine' xAe hR rfl rfl rfl inferInstance ?hm ?hv ?hn ?_; (case hm => first | with_reducible assumption | repeat (first | exact .head _ | with_reducible assumption | apply mC)); (case hv => first | with_reducible assumption | (simp only [kC, kD, kE, kF]; try rfl)); (case hn => first | rfl | simp)) | (refine' xAc hR rfl rfl rfl inferInstance ?hm ?hv ?_; (case hm => first | with_reducible assumption | repeat (first | exact .head _ | with_reducible assumption | apply mC)); (case hv => first | rfl | with_reducible assumption)) | (refine' xAd hR rfl rfl rfl inferInstance rfl ?hs ?zone ?zvn ?hn ?_; (case hs => repeat (first | exact xAh.head | apply xAh.tail)); (case zone => first | rfl | with_reducible assumption); (case zvn => first | rfl | simp); (case hn => first | rfl | simp); clear hR; intro w hR) | (refine' xAa hR rfl rfl rfl inferInstance rfl rfl ?hs ?hn ?hl ?_; (case hs => repeat (first | exact xAh.head | apply xAh.tail)); (case hn => first | exact oD rfl | (show _ < 4; with_reducible assumption) | (simp; try omega)); (case hl => first | with_reducible assumption | (simp only [nl, kA, kB]; first | done | rfl) | rfl); clear hR; intro w hR) | fail)
  try simp only [Act.put, kA, kB, List.setIfInBounds_toArray]
  rename_i b1 u1 K0 kz
  obtain ⟨b2, hb2⟩ : ∃ x, x = blk := ⟨_, rfl⟩
  subst hb2
  refine wp_region_F hR 9 mixed rfl ?_
  clear hR
  refine fHeads [(b1, .cells (rrow n t (.slice a k cap)).toArray 27)] [1, 1, 1, 1, 1, 1, 2, 2, 2] 3 rfl (by repeat (first | exact xBw | refine xBq (by repeat (first | exact .head _ | with_reducible assumption | apply mC)) ?_)) (by repeat (first | exact xBw | refine xBq (by repeat (first | exact .head _ | with_reducible assumption | apply mC)) ?_)) rfl (by decide +kernel) (fun K hK => ?_)
  repeat ((first | (refine xBo ?_) | (refine' xAz (by decide) rfl (.inl rfl) rfl ?ha ?_) | (refine' xAz (by decide) rfl (.inr rfl) rfl ?ha ?_) | (refine' xAy rfl rfl rfl inferInstance ?hm ?hn ?ha ?_; (case hm => first | with_reducible assumption | repeat (first | exact .head _ | with_reducible assumption | apply mC)); (case hn => first | rfl | simp)) | (refine' xAr rfl rfl rfl inferInstance ?hm ?hv ?hn ?ha ?_; (case hm => first | with_reducible assumption | repeat (first | exact .head _ | with_reducible assumption | apply mC)); (case hv => first | with_reducible assumption | (simp only [kC, kD, kE, kF]; try rfl)); (case hn => first | rfl | simp)) | (refine' xAn rfl rfl rfl inferInstance ?hm ?hv ?ha ?_; (case hm => first | with_reducible assumption | repeat (first | exact .head _ | with_reducible assumption | apply mC)); (case hv => first | rfl | with_reducible assumption)) | (refine' xAs rfl rfl rfl inferInstance ?hm ?hv ?hn ?ha ?_; (case hm => first | with_reducible assumption | repeat (first | exact .head _ | with_reducible assumption | apply mC)); (case hv => first | with_reducible assumption | (simp only [kC, kD, kE, kF]; try rfl)); (case hn => first | rfl | simp)) | (refine' xAl rfl rfl rfl inferInstance ?hm ?hv ?ha ?_; (case hm => first | with_reducible assumption | repeat (first | exact .head _ | with_reducible assumption | apply mC)); (case hv => first | rfl | with_reducible assumption)) | ((first | refine' xAj (by decide) rfl rfl rfl rfl (fun w => ?hq) ?ha ?_ | refine' xBh (by decide) rfl rfl rfl rfl (fun w => ?hq) ?ha ?_ | refine' xAw (by decide) rfl rfl rfl (fun w => ?hq) ?ha ?_ | refine' xAi (by decide) rfl rfl rfl (fun w => ?hq) ?ha ?_ | refine' xAv (by decide) rfl rfl rfl (fun w => ?hq) ?ha ?_ | refine' xBi (by decide) rfl rfl rfl rfl (fun w => ?hq) ?ha ?_ | refine' xBe (by decide) rfl rfl rfl rfl rfl rfl (fun w => ?hq) ?ha ?_ | refine' xBj (by decide) rfl rfl (fun w => ?hq) ?ha ?_ | refine' xAx (by decide) rfl rfl rfl (fun w => ?hq) ?ha ?_ | refine' xBg (by decide) rfl rfl rfl (fun w => ?hq) ?ha ?_); (case hq => go_simp; try rfl)) | (refine' xAm (by decide) rfl rfl rfl ?ha ?_) | (refine' xBp (by decide) rfl rfl rfl rfl ?ha ?_) | (refine' xBn (by decide) rfl ?ha ?_) | fail); try (case ha => simp only [kP, kQ, kA, kB]; try rfl))
  refine xBx (hK _ _ ?_)
  clear hK K
  refine f_at [6] (by decide +kernel) rfl ?_
  refine f_is 6 ?_
  refine f_call _ rfl rfl rfl rfl rfl (xBr Try.func46 (by kernel_rfl) (by kernel_rfl) _) (fun w hw => tm _ w hw) (fun v M' hM => ?_) f_nil
  obtain ⟨g, cap', cur, V, M, rfl, ho, rfl⟩ := hM
  replace ho := Held.mk ho
  simp only [List.cons_append]
  refine ⟨(by repeat (first | exact xBw | refine xBq (by repeat (first | exact .head _ | apply mC)) ?_)), ?_⟩
  simp only [Act.put, kA, kB, List.setIfInBounds_toArray]
  refine f_at [7] (by decide +kernel) rfl ?_
  refine f_is 7 ?_
  refine f_y rfl rfl (yields_build3 rfl rfl rfl rfl rfl (build_rsn _ _ _ _ _)) (by repeat (first | exact xBw | refine xBq (by repeat (first | exact .head _ | apply mC)) ?_)) ?_ f_nil
  simp only [Act.put, kA, kB, List.setIfInBounds_toArray]
  refine f_at [8] (by decide +kernel) rfl ?_
  refine f_is 8 ?_
  refine f_s rfl rfl (yields_storeAll rfl rfl rfl inferInstance rfl rfl rfl rfl (by repeat (first | exact xAh.head | apply xAh.tail))) (by repeat (first | exact xBw | refine xBq (by repeat (first | exact .head _ | apply mC)) ?_)) ?_ f_nil
  refine f_end (by decide +kernel) (fun w hR => ?_)
  simp only [Exit.then]
  refine kz _ _ (wp_ret ?_)
  refine bodyPost_ret (xBy Try.results15 rfl (hR.loadAll (P := Try.prog) (ty := 27) (t := 27) (l := rrow n t (.slice (some ⟨g, 0, none⟩) k cap')) (.tail _ (.head _)) rfl)) rfl ?_
  refine ⟨g, cap', cur, V, M, rfl, ho.out, ?_⟩
  exact (hR.weaken ((List.sublist_append_right [_, _] _).cons_cons _)).permT (.cons _ List.perm_append_comm)
end
end Go.Proofs.Ytdagdfcbnhfdkaa
