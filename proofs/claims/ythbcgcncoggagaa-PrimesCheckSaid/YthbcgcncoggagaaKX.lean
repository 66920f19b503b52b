/- The contracts of balefirelaw01.TwinReasons and TwinReason: the walks. -/
import Derived.Test.YthbcgcncoggagaaKR
import Derived.Deep.Cut
import Derived.Test.YthbcgcncoggagaaKQ
import Derived.Test.YthbcgcncoggagaaKJ
import Derived.Laws.IdiomCopy
import Derived.WalkKit
import Derived.OwnWalkIn
import Derived.Lib.AppendZerosOnto
import Derived.Laws.IdiomStrings
import Derived.Test.YthbcgcncoggagaaKF
import Derived.Test.YthbcgcncoggagaaKM
set_option linter.unusedVariables false
set_option linter.unusedSimpArgs false
namespace Go.Proofs.Ythbcgcncoggagaa
open Go.RowKit
attribute [local irreducible] Calls Instr.build Instr.buildSlice
theorem seg_take {α : Type} {l : List α} {a b n : Nat} (h : a + b ≤ n) : ((l.take n).drop a).take b = (l.drop a).take b := by
  rw [List.drop_take, List.take_take, Nat.min_eq_left (by omega)]
theorem seg_old {α : Type} {cur cur' row : List α} {i j : Nat} (hc : cur'.take ((i + 1) * 9) = cur.take (i * 9) ++ row) (hl : i * 9 ≤ cur.length) (hj : j < i) : (cur'.drop (j * 9)).take 9 = (cur.drop (j * 9)).take 9 := by
  have h1 : j * 9 + 9 ≤ (i + 1) * 9 := by omega
  have h2 : j * 9 + 9 ≤ i * 9 := by omega
  rw [← seg_take h1, hc, List.drop_append_of_le_length (by rw [List.length_take]; omega), List.take_append_of_le_length (by rw [List.length_drop, List.length_take]; omega), seg_take h2]
theorem seg_new {α : Type} {cur cur' row : List α} {i : Nat} (hc : cur'.take ((i + 1) * 9) = cur.take (i * 9) ++ row) (hl : i * 9 ≤ cur.length) (hr : row.length = 9) : (cur'.drop (i * 9)).take 9 = row := by
  have h1 : i * 9 + 9 ≤ (i + 1) * 9 := by omega
  have h2 : (cur.take (i * 9)).length = i * 9 := by rw [List.length_take]; omega
  rw [← seg_take h1, hc, List.drop_append, h2, List.drop_of_length_le (by omega), Nat.sub_self, List.drop_zero, List.nil_append, List.take_of_length_le (by omega)]
theorem build_spare (n : Nat) (w : World) : (Instr.build 53 #[(0, .agg (nl n).toArray)]).run Try.prog w = .ok (.agg (rrow n 0 (.slice none 0 0)).toArray) w := build_r1 n w
theorem wpList_build1P {P : Program} {ops : Array Oper} {rest : List Oper} {o : Oper} {a : Act} {w : World} {Q : Exit → Act → World → Prop} (hg : o.guard = none) {t : TypeId} {x : Operand} (hop : o.op = .build t #[(0, x)]) {vx v : Value} (hx : ev a x = some vx)
    (hrun : ∀ w, (Instr.build t #[(0, vx)]).run P w = .ok v w) (h : wpList P ops Q rest (a.put o.dst v) w) : wpList P ops Q (o :: rest) a w :=
  wpList_plain hg fun _ hK => by
    have hx := xBz hx
    unfold Oper.wp execOp
    simp only [hop, List.map_toArray, List.map_cons, List.map_nil, hx, hrun, Sem.run_bind, Result.andThen_ok, Sem.run_pure]
    exact hK _ _ h
theorem yields_build3 {B0 : Nat} {w0 : World} {L : List (Nat × Obj)} {ops : Array Oper} {o : Oper} {a : Act} (hg : o.guard = none) {t : TypeId} {x y z : Operand} (hop : o.op = .build t #[(0, x), (1, y), (2, z)]) {vx vy vz v : Value} (hx : ev a x = some vx) (hy : ev a y = some vy) (hz : ev a z = some vz)
    (hrun : ∀ w, (Instr.build t #[(0, vx), (1, vy), (2, vz)]).run Try.prog w = .ok v w) : xBw Try.prog ops o v a (Rep B0 w0 L) (Rep B0 w0 L) :=
  .inl ⟨wanted_of hg _, fun w hR => by
    have hx := xBz hx
    have hy := xBz hy
    have hz := xBz hz
    unfold execOp
    simp only [hop, List.map_toArray, List.map_cons, List.map_nil, hx, hy, hz, hrun, Sem.run_bind, Result.andThen_ok, Sem.run_pure]
    exact ⟨rfl, hR⟩⟩
theorem Rep.permT {B0 : Nat} {w0 w : World} {L L' : List (Nat × Obj)} (h : Rep B0 w0 L w) (hp : L.Perm L') : Rep B0 w0 L' w :=
  ⟨h.below, h.le, fun p hp' => h.own p (hp.mem_iff.2 hp'), (hp.map _).nodup_iff.1 h.uniq⟩
def TwinOut (B0 : Nat) (w0 : World) (L : List (Nat × Obj)) (r : RT) (e : Ending) (w' : World) : Prop := ∃ M l, e = .returned (.agg (List.toArray l)) ∧ TwAt M r l ∧ Rep B0 w0 (M ++ L) w'
structure TwL (k : Nat) (p : Nat → RT) (g cap : Nat) (cur : List Value) (V : Nat → List Value) (M : List (Nat × Obj)) : Prop where
  le : k + 1 ≤ cap
  big : cap ≤ maxLen
  len : cur.length = cap * 9
  row : ∀ j, j < k → (cur.drop (j * 9)).take 9 = V j
  spare : (cur.drop (k * 9)).take 9 = rrow 77 0 (.slice none 0 0)
  part : ∀ j, j < k → TwAt M (p j) (V j)
structure TwR where
  i : Nat
  g : Nat
  cap : Nat
  cur : List Value
  V : Nat → List Value
  M : List (Nat × Obj)
def TwROk (k : Nat) (p : Nat → RT) (x : TwR) : Prop := x.i ≤ k ∧ x.i ≤ x.cap ∧ x.cap ≤ maxLen ∧ x.cur.length = x.cap * 9 ∧ (∀ j, j < x.i → (x.cur.drop (j * 9)).take 9 = x.V j) ∧ ∀ j, j < x.i → TwAt x.M (p j) (x.V j)
section
variable {B0 : Nat} {w0 : World}
theorem rrow_cells (n t : Nat) (a : Option Addr) (k c : Nat) : ∀ u ∈ rrow n t (.slice a k c), u.oneCell' = true := fun u hu => List.all_eq_true.1 (rr_one n t a k c) u hu
set_option maxRecDepth 100000 in
set_option maxHeartbeats 8000000 in
theorem twins_go (n t k : Nat) (p : Nat → RT) (a : Option Addr) (cap : Nat) {L : List (Nat × Obj)} {w : World} (hr : RAt B0 w0 [] (.node n t k p) (rrow n t (.slice a k cap))) (hk : k ≤ 1599289640354)
    (ih : ∀ i, i < k → ∀ {w : World} {l : List Value} {L : List (Nat × Obj)}, RAt B0 w0 [] (p i) l → Rep B0 w0 L w → Calls Try.prog 27 #[.agg l.toArray] w fun e w' => TwinOut B0 w0 L (p i) e w') (hR : Rep B0 w0 L w) :
    Calls Try.prog 74 #[.slice a k cap] w fun e w' => ∃ g cap, e = .returned (.slice (some ⟨g, 0, none⟩) k cap) ∧ ∃ cur V M, TwL k p g cap cur V M ∧ Rep B0 w0 ((g, .cells cur.toArray 53) :: (M ++ L)) w' := by
  obtain ⟨_, _, a', cap', V, hrr, hkc, hcm, hmem, hsub⟩ := hr
  have ha : (Value.slice a k cap) = .slice a' k cap' := by
    have := congrArg (fun l => l[8]?) hrr
    exact Option.some.inj this
  obtain ⟨rfl, rfl⟩ : a = a' ∧ cap = cap' := by
    injection ha with h1 h2 h3
    exact ⟨h1, h3⟩
  clear hrr ha
  obtain ⟨k1, hk1⟩ : ∃ x, k + 1 = x := ⟨_, rfl⟩
  have f1 : IntKind.i64.wrap ((k : Int) + 1) = (k1 : Int) := by rw [IntKind.wrap_i64]; omega
  obtain ⟨l0, hl0, hmk⟩ := make_rsn k1 (by omega)
  replace hmem := Held.mk hmem
  replace hsub := Held.mk hsub
  replace ih := Held.mk ih
  replace hk1 := Held.mk hk1
  go_enter Try.func74, Try.ntmps74
  go_wp2_with (first | (refine' xAg hR rfl rfl rfl ?_; clear hR; intro blk w hR) | (refine' xAb hR rfl rfl inferInstance ?_; clear hR; intro blk w hR) | (refine' xAf hR rfl rfl rfl inferInstance ?hm ?hn ?_; (case hm => first | with_reducible assumption | repeat (first | exact .head _ | with_reducible assumption | apply mC)); (case hn => first | rfl | simp)) | (refine' xAe hR rfl rfl rfl inferInstance ?hm ?hv ?hn ?_; (case hm => first | with_reducible assumption | repeat (first | exact .head _ | with_reducible assumption | apply mC)); (case hv => first | with_reducible assumption | (simp only [kC, kD, kE, kF]; try rfl)); (case hn => first | rfl | simp)) | (refine' xAc hR rfl rfl rfl inferInstance ?hm ?hv ?_; (case hm => first | with_reducible assumption | repeat (first | exact .head _ | with_reducible assumption | apply mC)); (case hv => first | rfl | with_reducible assumption)) | (refine' xAd hR rfl rfl rfl inferInstance rfl ?hs ?zone ?zvn ?hn ?_; (case hs => repeat (first | exact xAh.head | apply xAh.tail)); (case zone => first | rfl | with_reducible assumption); (case zvn => first | rfl | simp); (case hn => first | rfl | simp); clear hR; intro w hR) | (refine' xAa hR rfl rfl rfl inferInstance rfl rfl ?hs ?hn ?hl ?_; (case hs => repeat (first | exact xAh.head | apply xAh.tail)); (case hn => first | exact oD rfl | (show _ < 4; with_reducible assumption) | (simp; try omega)); (case hl => first | with_reducible assumption | (simp only [nl, kA, kB]; first | done | rfl) | rfl); clear hR; intro w hR) | (refine' wpList_makeRep hR rfl rfl rfl rfl hmk ?_; clear hR; intro blk w hR))
  refine' loop_whileP (false :: false :: false :: false :: false :: false :: false :: false :: false :: true :: true :: true :: true :: true :: true :: true :: true :: true :: true :: true :: true :: true :: true :: false :: false :: false :: false :: false :: false :: false :: false :: []) (fun (x : TwR) l => (l.set 3 (.slice (some ⟨x.g, 0, none⟩) x.i x.cap)).set 4 (.int .i64 (x.i : Int))) (fun x => (x.g, .cells x.cur.toArray 53) :: (x.M ++ L)) (fun x => k - x.i) (TwROk k p) ⟨0, blk, k1, l0, fun _ => [], []⟩ ?h0 ?hO ?hR ?hs
  case h0 => exact xBq rfl rfl rfl
  case hO => exact ⟨Nat.zero_le _, Nat.zero_le _, by show k1 ≤ maxLen; unfold maxLen; have := hk1.out; omega, hl0, fun j h => absurd h (Nat.not_lt_zero j), fun j h => absurd h (Nat.not_lt_zero j)⟩
  case hR => exact hR
  case hs =>
    clear hR hl0 hmk
    intro x tm w hO ht hR K hK
    obtain ⟨i, g, gcap, cur, V2, M⟩ := x
    obtain ⟨hi, ble, bbig, blen, brow, bpart⟩ := hO
    simp only at hi ble bbig blen brow bpart ht hR
    have g0 : 0 ≤ (i : Int) := by omega
    have hil : i * 9 ≤ cur.length := by rw [blen]; exact Nat.mul_le_mul_right 9 ble
    have hbig : i ≤ 1599289640354 := by omega
    replace brow := Held.mk brow
    replace bpart := Held.mk bpart
    replace hil := Held.mk hil
    by_cases hik : i = k
    · subst hik
      clear hK
      have t1 : ¬ (i : Int) < (i : Int) := by omega
      replace blen := Held.mk blen
      repeat (first | (obtain ⟨x, tm', e, ht'⟩ := xBk ht; clear ht; subst e; have ht := ht'; clear ht') | (obtain ⟨tm', e, ht'⟩ := xBc ht; clear ht; subst e; have ht := ht'; clear ht'))
      obtain rfl := xBm ht
      clear ht
      go_wp2_with (first | (refine' xAg hR rfl rfl rfl ?_; clear hR; intro blk w hR) | (refine' xAb hR rfl rfl inferInstance ?_; clear hR; intro blk w hR) | (refine' xAf hR rfl rfl rfl inferInstance ?hm ?hn ?_; (case hm => first | with_reducible assumption | repeat (first | exact .head _ | with_reducible assumption | apply mC)); (case hn => first | rfl | simp)) | (refine' xAe hR rfl rfl rfl inferInstance ?hm ?hv ?hn ?_; (case hm => first | with_reducible assumption | repeat (first | exact .head _ | with_reducible assumption | apply mC)); (case hv => first | with_reducible assumption | (simp only [kC, kD, kE, kF]; try rfl)); (case hn => first | rfl | simp)) | (refine' xAc hR rfl rfl rfl inferInstance ?hm ?hv ?_; (case hm => first | with_reducible assumption | repeat (first | exact .head _ | with_reducible assumption | apply mC)); (case hv => first | rfl | with_reducible assumption)) | (refine' xAd hR rfl rfl rfl inferInstance rfl ?hs ?zone ?zvn ?hn ?_; (case hs => repeat (first | exact xAh.head | apply xAh.tail)); (case zone => first | rfl | with_reducible assumption); (case zvn => first | rfl | simp); (case hn => first | rfl | simp); clear hR; intro w hR) | (refine' xAa hR rfl rfl rfl inferInstance rfl rfl ?hs ?hn ?hl ?_; (case hs => repeat (first | exact xAh.head | apply xAh.tail)); (case hn => first | exact oD rfl | (show _ < 4; with_reducible assumption) | (simp; try omega)); (case hl => first | with_reducible assumption | (simp only [nl, kA, kB]; first | done | rfl) | rfl); clear hR; intro w hR) | (refine' wpList_build1P rfl rfl rfl build_77 ?_) | (refine' wpList_build1P rfl rfl rfl (build_spare 77) ?_) | (refine' wpList_rsnNew hR rfl rfl rfl ?_; clear hR; intro bs w hR) | (refine' wpList_appendRsn hR rfl rfl rfl rfl ble bbig blen.out rfl (rrow_cells _ _ _ _ _) hbig ?_; clear hR; intro g' cap' cur' w hR c1 c2 c3 c4; have c5 : (i : Int) ≤ (cap' : Int) := Int.ofNat_le.2 (Nat.le_of_succ_le c1); have c6 : ¬ cap' = 0 := fun h => Nat.not_succ_le_zero i (h ▸ c1)))
      go_ret
      refine ⟨g', cap', rfl, cur', V2, M, ⟨c1, c2, c3, fun j hj => ?_, seg_new c4 hil.out rfl, bpart.out⟩, hR⟩
      rw [seg_old c4 hil.out hj]
      exact brow.out j hj
    · have g1 : (i : Int) < (k : Int) := by omega
      have hik' : i < k := by omega
      obtain ⟨bb, off, rfl, hmr⟩ := hmem.out (by omega)
      have hsi := hsub.out i hik'
      have hld := reason_load (hmr w (hR.weaken (List.nil_sublist _)) i hik') hsi.len
      have ci := fun (L' : List (Nat × Obj)) (w : World) (hR : Rep B0 w0 L' w) => ih.out i hik' hsi hR
      generalize V i = vi at *
      have e1 : IntKind.i64.wrap ((i : Int) + 1) = (i : Int) + 1 := by rw [IntKind.wrap_i64]; omega
      have ek : ((i + 1 : Nat) : Int) = (i : Int) + 1 := by omega
      replace ek := Held.mk ek
      replace blen := Held.mk blen
      clear hsi hmr hmem hsub ih hkc hcm
      repeat (first | (obtain ⟨x, tm', e, ht'⟩ := xBk ht; clear ht; subst e; have ht := ht'; clear ht') | (obtain ⟨tm', e, ht'⟩ := xBc ht; clear ht; subst e; have ht := ht'; clear ht'))
      obtain rfl := xBm ht
      clear ht
      go_wp2_with (first | (refine' xAg hR rfl rfl rfl ?_; clear hR; intro blk w hR) | (refine' xAb hR rfl rfl inferInstance ?_; clear hR; intro blk w hR) | (refine' xAf hR rfl rfl rfl inferInstance ?hm ?hn ?_; (case hm => first | with_reducible assumption | repeat (first | exact .head _ | with_reducible assumption | apply mC)); (case hn => first | rfl | simp)) | (refine' xAe hR rfl rfl rfl inferInstance ?hm ?hv ?hn ?_; (case hm => first | with_reducible assumption | repeat (first | exact .head _ | with_reducible assumption | apply mC)); (case hv => first | with_reducible assumption | (simp only [kC, kD, kE, kF]; try rfl)); (case hn => first | rfl | simp)) | (refine' xAc hR rfl rfl rfl inferInstance ?hm ?hv ?_; (case hm => first | with_reducible assumption | repeat (first | exact .head _ | with_reducible assumption | apply mC)); (case hv => first | rfl | with_reducible assumption)) | (refine' xAd hR rfl rfl rfl inferInstance rfl ?hs ?zone ?zvn ?hn ?_; (case hs => repeat (first | exact xAh.head | apply xAh.tail)); (case zone => first | rfl | with_reducible assumption); (case zvn => first | rfl | simp); (case hn => first | rfl | simp); clear hR; intro w hR) | (refine' xAa hR rfl rfl rfl inferInstance rfl rfl ?hs ?hn ?hl ?_; (case hs => repeat (first | exact xAh.head | apply xAh.tail)); (case hn => first | exact oD rfl | (show _ < 4; with_reducible assumption) | (simp; try omega)); (case hl => first | with_reducible assumption | (simp only [nl, kA, kB]; first | done | rfl) | rfl); clear hR; intro w hR) | (refine' xCa rfl rfl rfl hld ?_) | (go_at_call 27; refine (ci _ _ hR).mono ?_; clear hR ci; rintro e w ⟨M1, l1, rfl, htw, hR⟩; obtain ⟨t1, a1, k1', c1', hl1, _, _⟩ := htw.row; subst hl1; replace htw := Held.mk htw; replace hR := hR.permT List.perm_middle; rw [← List.append_assoc] at hR) | (refine' wpList_rsnNew hR rfl rfl rfl ?_; clear hR; intro bs w hR) | (refine' wpList_appendRsn hR rfl rfl rfl rfl ble bbig blen.out rfl (rrow_cells _ _ _ _ _) hbig ?_; clear hR; intro g' cap' cur' w hR c1 c2 c3 c4))
      refine hK.out ⟨i + 1, g', cap', cur', fun j => if j = i then rrow (p i).num t1 (.slice a1 k1' c1') else V2 j, M1 ++ M⟩ _ _ ⟨by show i + 1 ≤ k; omega, c1, c2, c3, fun j hj => ?_, fun j hj => ?_⟩ (by show k - (i + 1) < k - i; omega) (by simp only [ek.out]; exact xBq rfl rfl rfl) hR
      · show (cur'.drop (j * 9)).take 9 = if j = i then _ else V2 j
        by_cases hji : j = i
        · rw [if_pos hji, hji]
          exact seg_new c4 hil.out rfl
        · have hj' : j < i + 1 := hj
          rw [if_neg hji, seg_old c4 hil.out (by omega)]
          exact brow.out j (by omega)
      · show TwAt (M1 ++ M) (p j) (if j = i then _ else V2 j)
        by_cases hji : j = i
        · rw [if_pos hji, hji]
          exact htw.out.mono fun p hp => List.mem_append_left _ hp
        · have hj' : j < i + 1 := hj
          rw [if_neg hji]
          exact (bpart.out j (by omega)).mono fun p hp => List.mem_append_right _ hp
end
end Go.Proofs.Ythbcgcncoggagaa
namespace Go.Proofs.Ythbcgcncoggagaa
open Go.RowKit
attribute [local irreducible] Calls Instr.build Instr.buildSlice
section
variable {B0 : Nat} {w0 : World}
set_option maxRecDepth 100000 in
set_option maxHeartbeats 8000000 in
theorem twin_any (r : RT) : ∀ {w : World} {l : List Value} {L : List (Nat × Obj)}, SmallT r → RAt B0 w0 [] r l → Rep B0 w0 L w → Calls Try.prog 27 #[.agg l.toArray] w fun e w' => TwinOut B0 w0 L r e w' := by
  induction r with
  | leaf => intro w l L _ h; exact h.elim
  | node n t k p ih =>
    intro w l L hs hr hR
    obtain ⟨hk, hs⟩ := hs
    obtain ⟨hn, ht, a, cap, V0, hrr, hrest⟩ := hr
    have hr : RAt B0 w0 [] (.node n t k p) (rrow n t (.slice a k cap)) := ⟨hn, ht, a, cap, V0, rfl, hrest⟩
    clear hrest
    subst hrr
    have tm : ∀ (L' : List (Nat × Obj)) (w : World), Rep B0 w0 L' w → Calls Try.prog 74 #[.slice a k cap] w fun e w' => ∃ v, e = .returned v ∧ outW B0 w0 (fun v M' => ∃ g cap' cur V M, v = .slice (some ⟨g, 0, none⟩) k cap' ∧ TwL k p g cap' cur V M ∧ M' = (g, Obj.cells cur.toArray 53) :: (L' ++ M)) v w' := fun L' w hR =>
      (twins_go n t k p a cap hr hk (fun i hi => ih i (hs i hi)) hR).mono fun e w' ⟨g, cap', he, cur, V, M, ho, hR⟩ => ⟨_, he, _, ⟨g, cap', cur, V, M, rfl, ho, rfl⟩, hR.permT (List.Perm.cons _ List.perm_append_comm)⟩
    have tn := rr_n n t (.slice a k cap)
    have tt := rr_t n t (.slice a k cap)
    have tv := rr_v n t (.slice a k cap)
    clear hr ih hs
    go_enter Try.func27, Try.ntmps27
    go_upto_region 1 with (first | (refine' xAg hR rfl rfl rfl ?_; clear hR; intro blk w hR) | (refine' xAb hR rfl rfl inferInstance ?_; clear hR; intro blk w hR) | (refine' xAf hR rfl rfl rfl inferInstance ?hm ?hn ?_; (case hm => first | with_reducible assumption | repeat (first | exact .head _ | with_reducible assumption | apply mC)); (case hn => first | rfl | simp)) | (refine' xAe hR rfl rfl rfl inferInstance ?hm ?hv ?hn ?_; (case hm => first | with_reducible assumption | repeat (first | exact .head _ | with_reducible assumption | apply mC)); (case hv => first | with_reducible assumption | (simp only [kC, kD, kE, kF]; try rfl)); (case hn => first | rfl | simp)) | (refine' xAc hR rfl rfl rfl inferInstance ?hm ?hv ?_; (case hm => first | with_reducible assumption | repeat (first | exact .head _ | with_reducible assumption | apply mC)); (case hv => first | rfl | with_reducible assumption)) | (refine' xAd hR rfl rfl rfl inferInstance rfl ?hs ?zone ?zvn ?hn ?_; (case hs => repeat (first | exact xAh.head | apply xAh.tail)); (case zone => first | rfl | with_reducible assumption); (case zvn => first | rfl | simp); (case hn => first | rfl | simp); clear hR; intro w hR) | (refine' xAa hR rfl rfl rfl inferInstance rfl rfl ?hs ?hn ?hl ?_; (case hs => repeat (first | exact xAh.head | apply xAh.tail)); (case hn => first | exact oD rfl | (show _ < 4; with_reducible assumption) | (simp; try omega)); (case hl => first | with_reducible assumption | (simp only [nl, kA, kB]; first | done | rfl) | rfl); clear hR; intro w hR) | fail)
    try simp only [Act.put, kA, kB, List.setIfInBounds_toArray]
    rename_i b1 u1 K0 kz
    obtain ⟨b2, hb2⟩ : ∃ x, x = blk := ⟨_, rfl⟩
    subst hb2
    refine wp_region_F hR 9 xCe rfl ?_
    clear hR
    refine fHeads [(b1, .cells (rrow n t (.slice a k cap)).toArray 53)] [1, 1, 1, 1, 1, 1, 2, 2, 2] 3 rfl (by repeat (first | exact sub_nil | refine sub_cons (by repeat (first | exact .head _ | with_reducible assumption | apply mC)) ?_)) (by repeat (first | exact sub_nil | refine sub_cons (by repeat (first | exact .head _ | with_reducible assumption | apply mC)) ?_)) rfl (by decide +kernel) (fun K hK => ?_)
    repeat ((first | (refine xBp ?_) | (refine' xAx (by decide) rfl (.inl rfl) rfl ?ha ?_) | (refine' xAx (by decide) rfl (.inr rfl) rfl ?ha ?_) | (refine' xAv rfl rfl rfl inferInstance ?hm ?hn ?ha ?_; (case hm => first | with_reducible assumption | repeat (first | exact .head _ | with_reducible assumption | apply mC)); (case hn => first | rfl | simp)) | (refine' xAs rfl rfl rfl inferInstance ?hm ?hv ?hn ?ha ?_; (case hm => first | with_reducible assumption | repeat (first | exact .head _ | with_reducible assumption | apply mC)); (case hv => first | with_reducible assumption | (simp only [kC, kD, kE, kF]; try rfl)); (case hn => first | rfl | simp)) | (refine' xAo rfl rfl rfl inferInstance ?hm ?hv ?ha ?_; (case hm => first | with_reducible assumption | repeat (first | exact .head _ | with_reducible assumption | apply mC)); (case hv => first | rfl | with_reducible assumption)) | (refine' xAr rfl rfl rfl inferInstance ?hm ?hv ?hn ?ha ?_; (case hm => first | with_reducible assumption | repeat (first | exact .head _ | with_reducible assumption | apply mC)); (case hv => first | with_reducible assumption | (simp only [kC, kD, kE, kF]; try rfl)); (case hn => first | rfl | simp)) | (refine' xAq rfl rfl rfl inferInstance ?hm ?hv ?ha ?_; (case hm => first | with_reducible assumption | repeat (first | exact .head _ | with_reducible assumption | apply mC)); (case hv => first | rfl | with_reducible assumption)) | ((first | refine' xAk (by decide) rfl rfl rfl rfl (fun w => ?hq) ?ha ?_ | refine' xBh (by decide) rfl rfl rfl rfl (fun w => ?hq) ?ha ?_ | refine' xAu (by decide) rfl rfl rfl (fun w => ?hq) ?ha ?_ | refine' xAj (by decide) rfl rfl rfl (fun w => ?hq) ?ha ?_ | refine' xAw (by decide) rfl rfl rfl (fun w => ?hq) ?ha ?_ | refine' xBg (by decide) rfl rfl rfl rfl (fun w => ?hq) ?ha ?_ | refine' xBe (by decide) rfl rfl rfl rfl rfl rfl (fun w => ?hq) ?ha ?_ | refine' xBd (by decide) rfl rfl (fun w => ?hq) ?ha ?_ | refine' xAt (by decide) rfl rfl rfl (fun w => ?hq) ?ha ?_ | refine' xBf (by decide) rfl rfl rfl (fun w => ?hq) ?ha ?_); (case hq => go_simp; try rfl)) | (refine' xAn (by decide) rfl rfl rfl ?ha ?_) | (refine' xBo (by decide) rfl rfl rfl rfl ?ha ?_) | (refine' xBn (by decide) rfl ?ha ?_) | fail); try (case ha => simp only [kP, kQ, kA, kB]; try rfl))
    refine xBt (hK _ _ ?_)
    clear hK K
    refine f_at [6] (by decide +kernel) rfl ?_
    refine f_is 6 ?_
    refine f_call _ rfl rfl rfl rfl rfl (xBj Try.func74 (by kernel_rfl) (by kernel_rfl) _) (fun w hw => tm _ w hw) (fun v M' hM => ?_) f_nil
    obtain ⟨g, cap', cur, V, M, rfl, ho, rfl⟩ := hM
    replace ho := Held.mk ho
    simp only [List.cons_append]
    refine ⟨(by repeat (first | exact sub_nil | refine sub_cons (by repeat (first | exact .head _ | apply mC)) ?_)), ?_⟩
    simp only [Act.put, kA, kB, List.setIfInBounds_toArray]
    refine f_at [7] (by decide +kernel) rfl ?_
    refine f_is 7 ?_
    refine f_y rfl rfl (yields_build3 rfl rfl rfl rfl rfl (build_rsn _ _ _ _ _)) (by repeat (first | exact sub_nil | refine sub_cons (by repeat (first | exact .head _ | apply mC)) ?_)) ?_ f_nil
    simp only [Act.put, kA, kB, List.setIfInBounds_toArray]
    refine f_at [8] (by decide +kernel) rfl ?_
    refine f_is 8 ?_
    refine f_s rfl rfl (yields_storeAll rfl rfl rfl inferInstance rfl rfl rfl rfl (by repeat (first | exact xAh.head | apply xAh.tail))) (by repeat (first | exact sub_nil | refine sub_cons (by repeat (first | exact .head _ | apply mC)) ?_)) ?_ f_nil
    refine f_end (by decide +kernel) (fun w hR => ?_)
    simp only [Exit.then]
    refine kz _ _ (wp_ret ?_)
    refine bodyPost_ret (xBy Try.results27 rfl (hR.loadAll (P := Try.prog) (ty := 53) (t := 53) (l := rrow n t (.slice (some ⟨g, 0, none⟩) k cap')) (.tail _ (.head _)) rfl)) rfl ?_
    refine ⟨(g, .cells cur.toArray 53) :: M, rrow n t (.slice (some ⟨g, 0, none⟩) k cap'), rfl, ⟨hn, ht, g, cap', cur, V, rfl, ho.out.le, ho.out.big, ho.out.len, .head _, ho.out.row, ho.out.spare, fun j hj => (ho.out.part j hj).mono fun p hp => .tail _ hp⟩, ?_⟩
    exact (hR.weaken ((List.sublist_append_right [_, _] _).cons_cons _)).permT (.cons _ List.perm_append_comm)
end
end Go.Proofs.Ythbcgcncoggagaa
namespace Go.Proofs.Ythbcgcncoggagaa
open Go.RowKit
attribute [local irreducible] Calls
instance inShaRef1 : RowT Try.prog 141 8 := .mk' (by kernel_rfl) (by kernel_rfl)
instance inShaRef2 : ZeroT Try.prog 141 (s8L zeroS) := ⟨.agg (s8L zeroS).toArray, by kernel_rfl, rfl⟩
end Go.Proofs.Ythbcgcncoggagaa
namespace Go.Proofs.Ythbcgcncoggagaa
open Go.RowKit
attribute [local irreducible] Calls
end Go.Proofs.Ythbcgcncoggagaa
namespace Go.Proofs.Ythbcgcncoggagaa
open Go.RowKit
attribute [local irreducible] Calls
theorem Rep.bare {B0 : Nat} {w0 w : World} {L : List (Nat × Obj)} (h : Rep B0 w0 L w) : Rep B0 w0 [] w := h.weaken (List.nil_sublist _)
theorem SliceOf.any {B0 : Nat} {w0 : World} {L : List (Nat × Obj)} {v : Value} {xs : List Nat} (h : SliceOf B0 w0 [] v xs) : SliceOf B0 w0 L v xs := h.mono fun w hw => hw.bare
end Go.Proofs.Ythbcgcncoggagaa
namespace Go.Proofs.Ythbcgcncoggagaa
open Go.RowKit
attribute [local irreducible] Calls
end Go.Proofs.Ythbcgcncoggagaa
namespace Go.Proofs.Ythbcgcncoggagaa
open Go.RowKit
attribute [local irreducible] Calls
noncomputable def twF (m : List Nat) : Nat → Nat := opq fun j => if j < m.length then m.getD j 0 else 77
section
variable {B0 : Nat} {w0 w : World} {L : List (Nat × Obj)}
theorem hd_loadFrom {ops : Array Oper} {ts : List Nat} {r acc : List Oper} {o : Oper} {a : Act} {K : List Oper → Act → Prop} {I : (World → Prop) → Prop} (hw : Region.wanted o (yielded ops a.tmps) = true) {ty : TypeId} {x : Operand} (hop : o.op = .load ty x) {ad : Addr} (hx : a.eval x = .pointer (some ad)) {v : Value}
    (hrun : ∀ w, Rep B0 w0 L w → (loadVar ty ad).run Try.prog w = .ok v w) {a' : Act} (ha : a.put o.dst v = a') (h : xBx Try.prog ops I (Rep B0 w0 L) K ts r acc a') : xBx Try.prog ops I (Rep B0 w0 L) K (0 :: ts) (o :: r) acc a :=
  hd_step hw (fun w hR => by
    unfold execOp
    simp only [hop, hx, Instr.loadAt, Instr.sureAddr, Sem.run_bind, Sem.run_pure, Result.andThen_ok, hrun w hR]
    exact ⟨rfl, hR⟩) ha h
end
end Go.Proofs.Ythbcgcncoggagaa
namespace Go.Proofs.Ythbcgcncoggagaa
open Go.RowKit
attribute [local irreducible] Calls
instance cellBytes : CellT Try.prog 91 := .mk' (by kernel_rfl) (by kernel_rfl)
end Go.Proofs.Ythbcgcncoggagaa
namespace Go.Proofs.Ythbcgcncoggagaa
open Go.RowKit
attribute [local irreducible] Calls
end Go.Proofs.Ythbcgcncoggagaa
namespace Go.Proofs.Ythbcgcncoggagaa
open Go.RowKit
attribute [local irreducible] Calls
structure OwnOk (cap : Nat) (cur : List Value) (ys : List Nat) : Prop where
  le : ys.length ≤ cap
  big : cap ≤ maxLen
  len : cur.length = cap
  is : cur.take ys.length = u8s ys.length fun j => ys.getD j 0
  byte : ∀ j, ys.getD j 0 < 256
section
variable {B0 : Nat} {w0 w : World} {L : List (Nat × Obj)}
def Fresh (B0 : Nat) (w0 : World) (L : List (Nat × Obj)) (e : Ending) (w' : World) (ys : List Nat) : Prop := ∃ g cap, e = .returned (.slice (some ⟨g, 0, none⟩) ys.length cap) ∧ ∃ cur, OwnOk cap cur ys ∧ Rep B0 w0 ((g, .cells cur.toArray 5) :: L) w'
end
end Go.Proofs.Ythbcgcncoggagaa
namespace Go.Proofs.Ythbcgcncoggagaa
open Go.RowKit
attribute [local irreducible] Calls
section
variable {B0 : Nat} {w0 w : World} {L : List (Nat × Obj)}
theorem Fresh.drop {p : Nat × Obj} {e : Ending} {w' : World} {ys : List Nat} (h : Fresh B0 w0 (p :: L) e w' ys) : Fresh B0 w0 L e w' ys := by
  obtain ⟨g, cap, he, cur, ho, hR⟩ := h
  exact ⟨g, cap, he, cur, ho, hR.weaken ((List.sublist_cons_self _ _).cons_cons _)⟩
end
end Go.Proofs.Ythbcgcncoggagaa
namespace Go.Proofs.Ythbcgcncoggagaa
open Go.RowKit
attribute [local irreducible] Calls
end Go.Proofs.Ythbcgcncoggagaa
namespace Go.Proofs.Ythbcgcncoggagaa
open Go.RowKit
attribute [local irreducible] Calls
end Go.Proofs.Ythbcgcncoggagaa
namespace Go.Proofs.Ythbcgcncoggagaa
open Go.RowKit
attribute [local irreducible] Calls
end Go.Proofs.Ythbcgcncoggagaa
namespace Go.Proofs.Ythbcgcncoggagaa
open Go.RowKit
attribute [local irreducible] Calls
end Go.Proofs.Ythbcgcncoggagaa
namespace Go.Proofs.Ythbcgcncoggagaa
open Go.RowKit
attribute [local irreducible] Calls Instr.build
noncomputable def rowV (V : Nat → Value) (n : Nat) : List Value := opq ((List.range n).map V)
theorem rowV_def (V : Nat → Value) (n : Nat) : rowV V n = (List.range n).map V := by unfold rowV; rw [xCb]
@[simp] theorem rowV_length (V : Nat → Value) (n : Nat) : (rowV V n).length = n := by rw [rowV_def]; simp
instance cellStr : CellT Try.prog 9 := .mk' (by kernel_rfl) (by kernel_rfl)
instance cellRows : CellT Try.prog 41 := .mk' (by kernel_rfl) (by kernel_rfl)
end Go.Proofs.Ythbcgcncoggagaa
namespace Go.Proofs.Ythbcgcncoggagaa
open Go.RowKit
attribute [local irreducible] Calls
instance zeroRows : ZeroT Try.prog 41 [.slice none 0 0] := ⟨.slice none 0 0, by kernel_rfl, rfl⟩
end Go.Proofs.Ythbcgcncoggagaa
namespace Go.Proofs.Ythbcgcncoggagaa
open Go.RowKit
attribute [local irreducible] Calls Instr.build Instr.buildSlice
def RowOwn (M : List (Nat × Obj)) (v : Value) (xs : List Nat) : Prop := ∃ g cap, ∃ cur : List Value, v = .slice (some ⟨g, 0, none⟩) xs.length cap ∧ (g, Obj.cells cur.toArray 5) ∈ M ∧ BufOk (xs.length + 1) (twF xs) ⟨0, g, cap, cur⟩
theorem RowOwn.mono {M M' : List (Nat × Obj)} {v : Value} {xs : List Nat} (h : RowOwn M v xs) (hM : ∀ p, p ∈ M → p ∈ M') : RowOwn M' v xs := by
  obtain ⟨g, cap, cur, h1, h2, h3⟩ := h
  exact ⟨g, cap, cur, h1, hM _ h2, h3⟩
structure TwOk (N : Nat) (xss : List (List Nat)) (g cap : Nat) (cur : List Value) (M : List (Nat × Obj)) (vs : List Value) (bt : Nat) : Prop where
  le : N + 1 ≤ cap
  big : cap ≤ maxLen
  len : cur.length = cap
  n : vs.length = N
  is : cur.take (N + 1) = vs ++ [.slice (some ⟨bt, 0, none⟩) 1 1]
  row : ∀ j v, vs[j]? = some v → RowOwn M v (xss.getD j [])
  spare : (bt, Obj.cells [Value.int .u8 77].toArray 5) ∈ M
theorem TwOk.at {N : Nat} {xss : List (List Nat)} {g cap : Nat} {cur : List Value} {M : List (Nat × Obj)} {vs : List Value} {bt : Nat} (h : TwOk N xss g cap cur M vs bt) {j : Nat} (hj : j < N) : ∃ v, vs[j]? = some v ∧ cur[j]? = some v := by
  obtain ⟨v, hv⟩ : ∃ v, vs[j]? = some v := ⟨_, List.getElem?_eq_getElem (by rw [h.n]; exact hj)⟩
  refine ⟨v, hv, ?_⟩
  have : (cur.take (N + 1))[j]? = some v := by rw [h.is, List.getElem?_append_left (by rw [h.n]; exact hj)]; exact hv
  rw [List.getElem?_take, if_pos (by omega)] at this
  exact this
theorem TwOk.end {N : Nat} {xss : List (List Nat)} {g cap : Nat} {cur : List Value} {M : List (Nat × Obj)} {vs : List Value} {bt : Nat} (h : TwOk N xss g cap cur M vs bt) : cur[N]? = some (.slice (some ⟨bt, 0, none⟩) 1 1) := by
  have : (cur.take (N + 1))[N]? = some (.slice (some ⟨bt, 0, none⟩) 1 1) := by rw [h.is, List.getElem?_append_right (by rw [h.n]; exact Nat.le_refl _), h.n, Nat.sub_self]; rfl
  rw [List.getElem?_take, if_pos (by omega)] at this
  exact this
end Go.Proofs.Ythbcgcncoggagaa
namespace Go.Proofs.Ythbcgcncoggagaa
open Go.RowKit
attribute [local irreducible] Calls Instr.build Instr.buildSlice
section
variable {B0 : Nat} {w0 w : World} {L : List (Nat × Obj)}
set_option maxRecDepth 100000 in
set_option maxHeartbeats 8000000 in
theorem lefts_go (k g o cap cp : Nat) (a : Option Addr) (Vt Vx : Nat → List Value) (hk : k + 1 ≤ cap) (hcm : cap ≤ maxLen) (hxc : k ≤ cp) (rt : ∀ w, Rep B0 w0 L w → ∀ j, j < k → w.rangeAt g (o + j * 9) (Vt j)) (lt : ∀ j, j < k → (Vt j).length = 9)
    (sp : ∀ w, Rep B0 w0 L w → w.rangeAt g (o + k * 9) (rrow 77 0 (.slice none 0 0))) (rx : k ≠ 0 → ∃ bb off, a = some ⟨bb, off, none⟩ ∧ ∀ w, Rep B0 w0 L w → ∀ j, j < k → w.rangeAt bb (off + j * 9) (Vx j)) (lx : ∀ j, j < k → (Vx j).length = 9)
    (ih : ∀ i, i < k → ∀ w, Rep B0 w0 L w → Calls Try.prog 30 #[.agg (Vt i).toArray, .agg (Vx i).toArray] w fun e w' => e = .returned (.bool true) ∧ Rep B0 w0 L w') (hR : Rep B0 w0 L w) :
    Calls Try.prog 80 #[.slice (some ⟨g, o, none⟩) k cap, .slice a k cp] w fun e w' => e = .returned (.bool true) ∧ Rep B0 w0 L w' := by
  obtain ⟨k1, hk1⟩ : ∃ x, k + 1 = x := ⟨_, rfl⟩
  have f1 : IntKind.i64.wrap ((k : Int) + 1) = (k1 : Int) := by rw [IntKind.wrap_i64]; unfold maxLen at hcm; omega
  have f2 : ¬ (cap : Int) ≤ (k : Int) := by omega
  have f3 : decide ((cap : Int) ≤ (k : Int)) = false := decide_eq_false f2
  have f4 : ¬ cap = 0 := by omega
  have f5 : (k1 : Int) ≤ (cap : Int) := by omega
  have f6 : 0 ≤ (k1 : Int) := by omega
  have f7 : (k : Int) < (k1 : Int) := by omega
  have f8 : 0 ≤ (k : Int) := by omega
  obtain ⟨n7, hn7⟩ : ∃ n, n = 77 := ⟨_, rfl⟩
  have b7 : ∀ w : World, (Instr.build 24 #[(0, .int .u64 77)]).run Try.prog w = .ok (.agg (nl n7).toArray) w := by rw [hn7]; exact build_77
  rw [← hn7] at sp
  have r7 := rr_n n7 0 (.slice none 0 0)
  have e7 := eqN_self n7
  have lds := fun (w : World) (hw : Rep B0 w0 L w) => reason_load (sp w hw) rfl
  replace hk1 := Held.mk hk1
  replace rt := Held.mk rt
  replace lt := Held.mk lt
  replace rx := Held.mk rx
  replace lx := Held.mk lx
  replace ih := Held.mk ih
  clear sp hn7 hxc
  go_enter Try.func80, Try.ntmps80
  go_wp2_with (first | (refine' xAg hR rfl rfl rfl ?_; clear hR; intro blk w hR) | (refine' xAb hR rfl rfl inferInstance ?_; clear hR; intro blk w hR) | (refine' xAf hR rfl rfl rfl inferInstance ?hm ?hn ?_; (case hm => first | with_reducible assumption | repeat (first | exact .head _ | with_reducible assumption | apply mC)); (case hn => first | rfl | simp)) | (refine' xAe hR rfl rfl rfl inferInstance ?hm ?hv ?hn ?_; (case hm => first | with_reducible assumption | repeat (first | exact .head _ | with_reducible assumption | apply mC)); (case hv => first | with_reducible assumption | (simp only [kC, kD, kE, kF]; try rfl)); (case hn => first | rfl | simp)) | (refine' xAc hR rfl rfl rfl inferInstance ?hm ?hv ?_; (case hm => first | with_reducible assumption | repeat (first | exact .head _ | with_reducible assumption | apply mC)); (case hv => first | rfl | with_reducible assumption)) | (refine' xAd hR rfl rfl rfl inferInstance rfl ?hs ?zone ?zvn ?hn ?_; (case hs => repeat (first | exact xAh.head | apply xAh.tail)); (case zone => first | rfl | with_reducible assumption); (case zvn => first | rfl | simp); (case hn => first | rfl | simp); clear hR; intro w hR) | (refine' xAa hR rfl rfl rfl inferInstance rfl rfl ?hs ?hn ?hl ?_; (case hs => repeat (first | exact xAh.head | apply xAh.tail)); (case hn => first | exact oD rfl | (show _ < 4; with_reducible assumption) | (simp; try omega)); (case hl => first | with_reducible assumption | (simp only [nl, kA, kB]; first | done | rfl) | rfl); clear hR; intro w hR) | (refine' xBa hR rfl rfl rfl inferInstance ?hm ?hn ?_; (case hm => first | with_reducible assumption | repeat (first | exact .head _ | with_reducible assumption | apply mC)); (case hn => first | rfl | simp)) | (refine' xAz hR rfl rfl rfl inferInstance ?hm ?hv ?_; (case hm => first | with_reducible assumption | repeat (first | exact .head _ | with_reducible assumption | apply mC)); (case hv => first | rfl | with_reducible assumption)) | fail)
  try simp only [Act.put, kA, kB, List.setIfInBounds_toArray]
  refine' loop_whileC hR (false :: false :: false :: false :: false :: false :: false :: false :: false :: false :: false :: false :: false :: false :: false :: false :: false :: false :: false :: true :: true :: true :: true :: true :: true :: true :: true :: true :: true :: true :: true :: true :: true :: true :: true :: false :: false :: false :: false :: false :: false :: false :: false :: false :: false :: false :: false :: false :: []) (fun (i : Nat) l => l.set 5 (.int .i64 (i : Int))) (fun i => k - i) (fun i => i ≤ k) 0 ?h0 ?hO ?hs
  case h0 => exact xBq rfl rfl rfl
  case hO => exact Nat.zero_le _
  case hs =>
    clear hR
    intro i tm w hi ht hR K hK
    have g0 : 0 ≤ (i : Int) := by omega
    by_cases hik : i = k
    · subst hik
      have t1 : ¬ (i : Int) < (i : Int) := by omega
      have t1' : decide ((i : Int) < (i : Int)) = false := decide_eq_false t1
      have ldw := lds w hR
      clear hK hi lds rt lt rx lx ih
      repeat (first | (obtain ⟨x, tm', e, ht'⟩ := xBk ht; clear ht; subst e; have ht := ht'; clear ht') | (obtain ⟨tm', e, ht'⟩ := xBc ht; clear ht; subst e; have ht := ht'; clear ht'))
      obtain rfl := xBm ht
      clear ht
      go_wp2_with (first | (refine' xAg hR rfl rfl rfl ?_; clear hR; intro blk w hR) | (refine' xAb hR rfl rfl inferInstance ?_; clear hR; intro blk w hR) | (refine' xAf hR rfl rfl rfl inferInstance ?hm ?hn ?_; (case hm => first | with_reducible assumption | repeat (first | exact .head _ | with_reducible assumption | apply mC)); (case hn => first | rfl | simp)) | (refine' xAe hR rfl rfl rfl inferInstance ?hm ?hv ?hn ?_; (case hm => first | with_reducible assumption | repeat (first | exact .head _ | with_reducible assumption | apply mC)); (case hv => first | with_reducible assumption | (simp only [kC, kD, kE, kF]; try rfl)); (case hn => first | rfl | simp)) | (refine' xAc hR rfl rfl rfl inferInstance ?hm ?hv ?_; (case hm => first | with_reducible assumption | repeat (first | exact .head _ | with_reducible assumption | apply mC)); (case hv => first | rfl | with_reducible assumption)) | (refine' xAd hR rfl rfl rfl inferInstance rfl ?hs ?zone ?zvn ?hn ?_; (case hs => repeat (first | exact xAh.head | apply xAh.tail)); (case zone => first | rfl | with_reducible assumption); (case zvn => first | rfl | simp); (case hn => first | rfl | simp); clear hR; intro w hR) | (refine' xAa hR rfl rfl rfl inferInstance rfl rfl ?hs ?hn ?hl ?_; (case hs => repeat (first | exact xAh.head | apply xAh.tail)); (case hn => first | exact oD rfl | (show _ < 4; with_reducible assumption) | (simp; try omega)); (case hl => first | with_reducible assumption | (simp only [nl, kA, kB]; first | done | rfl) | rfl); clear hR; intro w hR) | (refine' xBa hR rfl rfl rfl inferInstance ?hm ?hn ?_; (case hm => first | with_reducible assumption | repeat (first | exact .head _ | with_reducible assumption | apply mC)); (case hn => first | rfl | simp)) | (refine' xAz hR rfl rfl rfl inferInstance ?hm ?hv ?_; (case hm => first | with_reducible assumption | repeat (first | exact .head _ | with_reducible assumption | apply mC)); (case hv => first | rfl | with_reducible assumption)) | (refine' xCa rfl rfl rfl ldw ?_) | (refine' wpList_build1P rfl rfl rfl b7 ?_))
      go_ret
      exact ⟨rfl, hR.drop1⟩
    · have hik' : i < k := by omega
      have g1 : (i : Int) < (k : Int) := by omega
      have g2 : (i : Int) < (k : Int) := g1
      obtain ⟨bb, off, rfl, hx⟩ := rx.out (by omega)
      have ld1 := fun (w : World) (hw : Rep B0 w0 L w) => reason_load (rt.out w hw i hik') (lt.out i hik')
      have ld2 := fun (w : World) (hw : Rep B0 w0 L w) => reason_load (hx w hw i hik') (lx.out i hik')
      have ci := ih.out i hik'
      generalize Vt i = vt at *
      generalize Vx i = vx at *
      have ei : IntKind.i64.wrap ((i : Int) + 1) = ((i + 1 : Nat) : Int) := by rw [IntKind.wrap_i64]; unfold maxLen at hcm; omega
      have hi1 : i + 1 ≤ k := by omega
      have hmu : k - (i + 1) < k - i := by omega
      replace hi1 := Held.mk hi1
      replace hmu := Held.mk hmu
      clear hi hik hik' hx rt lt rx lx ih lds hcm hk
      repeat (first | (obtain ⟨x, tm', e, ht'⟩ := xBk ht; clear ht; subst e; have ht := ht'; clear ht') | (obtain ⟨tm', e, ht'⟩ := xBc ht; clear ht; subst e; have ht := ht'; clear ht'))
      obtain rfl := xBm ht
      clear ht
      go_wp2_with (first | (refine' xAg hR rfl rfl rfl ?_; clear hR; intro blk w hR) | (refine' xAb hR rfl rfl inferInstance ?_; clear hR; intro blk w hR) | (refine' xAf hR rfl rfl rfl inferInstance ?hm ?hn ?_; (case hm => first | with_reducible assumption | repeat (first | exact .head _ | with_reducible assumption | apply mC)); (case hn => first | rfl | simp)) | (refine' xAe hR rfl rfl rfl inferInstance ?hm ?hv ?hn ?_; (case hm => first | with_reducible assumption | repeat (first | exact .head _ | with_reducible assumption | apply mC)); (case hv => first | with_reducible assumption | (simp only [kC, kD, kE, kF]; try rfl)); (case hn => first | rfl | simp)) | (refine' xAc hR rfl rfl rfl inferInstance ?hm ?hv ?_; (case hm => first | with_reducible assumption | repeat (first | exact .head _ | with_reducible assumption | apply mC)); (case hv => first | rfl | with_reducible assumption)) | (refine' xAd hR rfl rfl rfl inferInstance rfl ?hs ?zone ?zvn ?hn ?_; (case hs => repeat (first | exact xAh.head | apply xAh.tail)); (case zone => first | rfl | with_reducible assumption); (case zvn => first | rfl | simp); (case hn => first | rfl | simp); clear hR; intro w hR) | (refine' xAa hR rfl rfl rfl inferInstance rfl rfl ?hs ?hn ?hl ?_; (case hs => repeat (first | exact xAh.head | apply xAh.tail)); (case hn => first | exact oD rfl | (show _ < 4; with_reducible assumption) | (simp; try omega)); (case hl => first | with_reducible assumption | (simp only [nl, kA, kB]; first | done | rfl) | rfl); clear hR; intro w hR) | fail)
      refine xAl hR [0, 0, 0, 0, 0, 0, 0, 0, 0, 0] [] xCe (by kernel_rfl) rfl rfl (fun K hK => ?_)
      clear hR
      repeat ((first | (refine xBp ?_) | (refine' xAx (by decide) rfl (.inl rfl) rfl ?ha ?_) | (refine' xAx (by decide) rfl (.inr rfl) rfl ?ha ?_) | (refine' xAv rfl rfl rfl inferInstance ?hm ?hn ?ha ?_; (case hm => first | with_reducible assumption | repeat (first | exact .head _ | with_reducible assumption | apply mC)); (case hn => first | rfl | simp)) | (refine' xAs rfl rfl rfl inferInstance ?hm ?hv ?hn ?ha ?_; (case hm => first | with_reducible assumption | repeat (first | exact .head _ | with_reducible assumption | apply mC)); (case hv => first | with_reducible assumption | (simp only [kC, kD, kE, kF]; try rfl)); (case hn => first | rfl | simp)) | (refine' xAo rfl rfl rfl inferInstance ?hm ?hv ?ha ?_; (case hm => first | with_reducible assumption | repeat (first | exact .head _ | with_reducible assumption | apply mC)); (case hv => first | rfl | with_reducible assumption)) | (refine' xAr rfl rfl rfl inferInstance ?hm ?hv ?hn ?ha ?_; (case hm => first | with_reducible assumption | repeat (first | exact .head _ | with_reducible assumption | apply mC)); (case hv => first | with_reducible assumption | (simp only [kC, kD, kE, kF]; try rfl)); (case hn => first | rfl | simp)) | (refine' xAq rfl rfl rfl inferInstance ?hm ?hv ?ha ?_; (case hm => first | with_reducible assumption | repeat (first | exact .head _ | with_reducible assumption | apply mC)); (case hv => first | rfl | with_reducible assumption)) | ((first | refine' xAk (by decide) rfl rfl rfl rfl (fun w => ?hq) ?ha ?_ | refine' xBh (by decide) rfl rfl rfl rfl (fun w => ?hq) ?ha ?_ | refine' xAu (by decide) rfl rfl rfl (fun w => ?hq) ?ha ?_ | refine' xAj (by decide) rfl rfl rfl (fun w => ?hq) ?ha ?_ | refine' xAw (by decide) rfl rfl rfl (fun w => ?hq) ?ha ?_ | refine' xBg (by decide) rfl rfl rfl rfl (fun w => ?hq) ?ha ?_ | refine' xBe (by decide) rfl rfl rfl rfl rfl rfl (fun w => ?hq) ?ha ?_ | refine' xBd (by decide) rfl rfl (fun w => ?hq) ?ha ?_ | refine' xAt (by decide) rfl rfl rfl (fun w => ?hq) ?ha ?_ | refine' xBf (by decide) rfl rfl rfl (fun w => ?hq) ?ha ?_); (case hq => go_simp; try rfl)) | (refine' xAn (by decide) rfl rfl rfl ?ha ?_) | (refine' xBo (by decide) rfl rfl rfl rfl ?ha ?_) | (refine' xBn (by decide) rfl ?ha ?_) | (refine' hd_loadFrom rfl rfl rfl ld1 ?ha ?_; (case ha => simp only [kP, kQ, kA, kB]; try rfl)) | (refine' hd_loadFrom rfl rfl rfl ld2 ?ha ?_; (case ha => simp only [kP, kQ, kA, kB]; try rfl)) | (refine' hd_callR rfl rfl rfl (xBj Try.func30 (by kernel_rfl) (by kernel_rfl) _) (fun w hw => ci w hw) ?ha ?_) | (refine' hd_unOp (by decide) rfl rfl rfl (fun w => ?hq) ?ha ?_; (case hq => go_simp; try rfl))); try (case ha => simp only [kP, kQ, kA, kB]; try rfl))
      refine xBt (hK _ _ ?_)
      clear hK K
      refine xBv (fun Q hQ => ?_)
      try simp only [List.nil_append, List.cons_append]
      repeat ((first | refine' xAy rfl (.inl rfl) rfl ?hk ?ha ?_ | refine' xAy rfl (.inr rfl) rfl ?hk ?ha ?_ | (refine' xAp rfl rfl rfl inferInstance rfl ?hs rfl rfl ?hn ?hk ?ha ?_; (case hs => repeat (first | exact xAh.head | apply xAh.tail)); (case hn => first | rfl | simp)) | (refine' xAi rfl rfl rfl inferInstance rfl rfl ?hs ?hn ?hl ?hk ?ha ?_; (case hs => repeat (first | exact xAh.head | apply xAh.tail)); (case hn => first | exact oD rfl | (show _ < 4; with_reducible assumption) | (simp; try omega)); (case hl => first | with_reducible assumption | (simp only [nl, kA, kB]; first | done | rfl) | rfl)) | (refine' xAm rfl rfl rfl inferInstance rfl rfl ?hvn ?hs ?hn ?hl ?hk ?ha ?_; (case hvn => first | rfl | simp); (case hs => repeat (first | exact xAh.head | apply xAh.tail)); (case hn => first | exact oD rfl | (show _ < 4; with_reducible assumption) | (simp; try omega)); (case hl => first | with_reducible assumption | (simp only [nl, kA, kB]; first | done | rfl) | rfl)) | (refine' xBl rfl (fun w => ?hq) ?hk ?ha ?_; (case hq => go_simp; try rfl))); (case hk => intro p hp; first | exact absurd hp List.not_mem_nil | (obtain rfl := List.mem_singleton.1 hp; repeat (first | exact List.Mem.head _ | with_reducible assumption | apply mC))); (case ha => simp only [kP, kQ, kA, kB]; try rfl))
      refine xBu (fun w hR => hQ _ _ ?_)
      clear hQ Q
      go_wp2_with (first | (refine' xAg hR rfl rfl rfl ?_; clear hR; intro blk w hR) | (refine' xAb hR rfl rfl inferInstance ?_; clear hR; intro blk w hR) | (refine' xAf hR rfl rfl rfl inferInstance ?hm ?hn ?_; (case hm => first | with_reducible assumption | repeat (first | exact .head _ | with_reducible assumption | apply mC)); (case hn => first | rfl | simp)) | (refine' xAe hR rfl rfl rfl inferInstance ?hm ?hv ?hn ?_; (case hm => first | with_reducible assumption | repeat (first | exact .head _ | with_reducible assumption | apply mC)); (case hv => first | with_reducible assumption | (simp only [kC, kD, kE, kF]; try rfl)); (case hn => first | rfl | simp)) | (refine' xAc hR rfl rfl rfl inferInstance ?hm ?hv ?_; (case hm => first | with_reducible assumption | repeat (first | exact .head _ | with_reducible assumption | apply mC)); (case hv => first | rfl | with_reducible assumption)) | (refine' xAd hR rfl rfl rfl inferInstance rfl ?hs ?zone ?zvn ?hn ?_; (case hs => repeat (first | exact xAh.head | apply xAh.tail)); (case zone => first | rfl | with_reducible assumption); (case zvn => first | rfl | simp); (case hn => first | rfl | simp); clear hR; intro w hR) | (refine' xAa hR rfl rfl rfl inferInstance rfl rfl ?hs ?hn ?hl ?_; (case hs => repeat (first | exact xAh.head | apply xAh.tail)); (case hn => first | exact oD rfl | (show _ < 4; with_reducible assumption) | (simp; try omega)); (case hl => first | with_reducible assumption | (simp only [nl, kA, kB]; first | done | rfl) | rfl); clear hR; intro w hR) | fail)
      exact hK.out (i + 1) _ _ hi1.out hmu.out (xBq rfl rfl rfl) hR
end
section
variable {B0 : Nat} {w0 : World}
set_option maxRecDepth 100000 in
set_option maxHeartbeats 8000000 in
theorem left_reason (r : RT) : ∀ {w : World} {lt lx : List Value} {L M : List (Nat × Obj)}, TwAt M r lt → (∀ p, p ∈ M → p ∈ L) → RAt B0 w0 [] r lx → Rep B0 w0 L w → Calls Try.prog 30 #[.agg lt.toArray, .agg lx.toArray] w fun e w' => e = .returned (.bool true) ∧ Rep B0 w0 L w' := by
  induction r with
  | leaf => intro w lt lx L M h; exact h.elim
  | node n t k p ih =>
    intro w lt lx L M ht hM hx hR
    obtain ⟨hn, htB, g, cap, cur, V, rfl, hkc, hcm, hcl, hg, hrow, hsp, hpt⟩ := ht
    obtain ⟨_, _, a, cp, Vx, rfl, hxc, hxm, hmem, hsub⟩ := hx
    have tm : ∀ (L' : List (Nat × Obj)) (w : World), (∀ p, p ∈ M → p ∈ L') → Rep B0 w0 L' w → Calls Try.prog 80 #[.slice (some ⟨g, 0, none⟩) k cap, .slice a k cp] w fun e w' => e = .returned (.bool true) ∧ Rep B0 w0 L' w' := fun L' w hM' hR =>
      lefts_go k g 0 cap cp a V Vx hkc hcm hxc (fun w hw j hj => by rw [Nat.zero_add]; exact hw.rangeAt (hM' _ hg) (hrow j hj)) (fun j hj => (tw_at (B0 := B0) (w0 := w0) (L := M) (fun p hp => hp) (hpt j hj)).len) (fun w hw => by rw [Nat.zero_add]; exact hw.rangeAt (hM' _ hg) hsp)
        (fun hk0 => by
          obtain ⟨bb, off, q1, q2⟩ := hmem hk0
          exact ⟨bb, off, q1, fun w hw => q2 w (hw.weaken (List.nil_sublist _))⟩) (fun j hj => (hsub j hj).len) (fun i hi w hw => ih i (hpt i hi) hM' (hsub i hi) hw) hR
    have tn1 := rr_n n t (.slice (some ⟨g, 0, none⟩) k cap)
    have tn2 := rr_n n t (.slice a k cp)
    have tt1 := rr_t n t (.slice (some ⟨g, 0, none⟩) k cap)
    have tt2 := rr_t n t (.slice a k cp)
    have tv1 := rr_v n t (.slice (some ⟨g, 0, none⟩) k cap)
    have tv2 := rr_v n t (.slice a k cp)
    have e1 := eqN_self n
    have e2 := eqN_self t
    replace hM := Held.mk hM
    clear hkc hcm hcl hg hrow hsp hpt hxc hxm hmem hsub ih
    go_enter Try.func30, Try.ntmps30
    go_wp2_with (first | go_skip | (refine' xAg hR rfl rfl rfl ?_; clear hR; intro blk w hR) | (refine' xAb hR rfl rfl inferInstance ?_; clear hR; intro blk w hR) | (refine' xAf hR rfl rfl rfl inferInstance ?hm ?hn ?_; (case hm => first | with_reducible assumption | repeat (first | exact .head _ | with_reducible assumption | apply mC)); (case hn => first | rfl | simp)) | (refine' xAe hR rfl rfl rfl inferInstance ?hm ?hv ?hn ?_; (case hm => first | with_reducible assumption | repeat (first | exact .head _ | with_reducible assumption | apply mC)); (case hv => first | with_reducible assumption | (simp only [kC, kD, kE, kF]; try rfl)); (case hn => first | rfl | simp)) | (refine' xAc hR rfl rfl rfl inferInstance ?hm ?hv ?_; (case hm => first | with_reducible assumption | repeat (first | exact .head _ | with_reducible assumption | apply mC)); (case hv => first | rfl | with_reducible assumption)) | (refine' xAd hR rfl rfl rfl inferInstance rfl ?hs ?zone ?zvn ?hn ?_; (case hs => repeat (first | exact xAh.head | apply xAh.tail)); (case zone => first | rfl | with_reducible assumption); (case zvn => first | rfl | simp); (case hn => first | rfl | simp); clear hR; intro w hR) | (refine' xAa hR rfl rfl rfl inferInstance rfl rfl ?hs ?hn ?hl ?_; (case hs => repeat (first | exact xAh.head | apply xAh.tail)); (case hn => first | exact oD rfl | (show _ < 4; with_reducible assumption) | (simp; try omega)); (case hl => first | with_reducible assumption | (simp only [nl, kA, kB]; first | done | rfl) | rfl); clear hR; intro w hR) | (refine' xBa hR rfl rfl rfl inferInstance ?hm ?hn ?_; (case hm => first | with_reducible assumption | repeat (first | exact .head _ | with_reducible assumption | apply mC)); (case hn => first | rfl | simp)) | (refine' xAz hR rfl rfl rfl inferInstance ?hm ?hv ?_; (case hm => first | with_reducible assumption | repeat (first | exact .head _ | with_reducible assumption | apply mC)); (case hv => first | rfl | with_reducible assumption)) | (refine' xBi hR rfl rfl rfl inferInstance ?hm ?hv ?hn ?_; (case hm => first | with_reducible assumption | repeat (first | exact .head _ | with_reducible assumption | apply mC)); (case hv => first | with_reducible assumption | (simp only [kC, kD, kE, kF]; try rfl)); (case hn => first | rfl | simp)) | (go_at_call 80; refine (tm _ _ (fun p hp => .tail _ (.tail _ (hM.out p hp))) hR).mono ?_; clear hR; rintro e w ⟨rfl, hR⟩))
    go_ret
    exact ⟨rfl, hR.drop1.drop1⟩
end
end Go.Proofs.Ythbcgcncoggagaa
