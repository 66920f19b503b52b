/- Plain: words, sums and differences; the model's rows for Add64 and Sub64. -/
import Derived.Test.YtgfoeongjhkdmaaGreatRB
import Derived.Test.YtgfoeongjhkdmaaGreatShelf
import Derived.Laws.Bits64b
set_option linter.unusedVariables false
set_option linter.unusedSimpArgs false
namespace Go.Proofs.YtgfoeongjhkdmaaGreat
open Go.RowKit
theorem add64 (x y c : Int) (hx : 0 ≤ x) (hy : 0 ≤ y) (hc0 : 0 ≤ c) (hc : c ≤ 1) (w : World) : (callFunc 94 #[.int .u64 x, .int .u64 y, .int .u64 c]).run Tryz.prog w =
    .ok (.value (.tuple #[.int .u64 ((x + y + c) % 18446744073709551616), .int .u64 ((x + y + c) / 18446744073709551616)])) w := by
  rw [run_callFunc_extern Tryz.func94 (by kernel_rfl) (by kernel_rfl) (by kernel_rfl) (e := add64Entry) (by kernel_rfl), run_add64 x y c (by omega) (by omega) (by omega) (by omega)]
  rfl
noncomputable def sm : Int → Int → Int → Int := opq fun x y c => (x + y + c) % 18446744073709551616
noncomputable def ca : Int → Int → Int → Int := opq fun x y c => (x + y + c) / 18446744073709551616
noncomputable def df : Int → Int → Int → Int := opq fun x y c => (x - y - c) % 18446744073709551616
theorem sm_def (x y c : Int) : sm x y c = (x + y + c) % 18446744073709551616 := by unfold sm; rw [xCe]
theorem ca_def (x y c : Int) : ca x y c = (x + y + c) / 18446744073709551616 := by unfold ca; rw [xCe]
theorem df_def (x y c : Int) : df x y c = (x - y - c) % 18446744073709551616 := by unfold df; rw [xCe]
theorem ca_lo (x y c : Int) (hx : 0 ≤ x) (hy : 0 ≤ y) (hc : 0 ≤ c) : 0 ≤ ca x y c := by rw [ca_def]; omega
theorem ca_hi (x y c : Int) (hx : x < 18446744073709551616) (hy : y < 18446744073709551616) (hc : c ≤ 1) : ca x y c ≤ 1 := by rw [ca_def]; omega
theorem add64' (x y c : Int) (hx : 0 ≤ x) (hy : 0 ≤ y) (hc0 : 0 ≤ c) (hc : c ≤ 1) (w : World) : (callFunc 94 #[.int .u64 x, .int .u64 y, .int .u64 c]).run Tryz.prog w =
    .ok (.value (.tuple #[.int .u64 (sm x y c), .int .u64 (ca x y c)])) w := by rw [sm_def, ca_def]; exact add64 x y c hx hy hc0 hc w
def sub64Row : Array Value → Sem Value := fun args => do
  let (x, y, b) ← Extern.MathBitsCarry.three "Sub64" args
  pure (Extern.MathBitsCarry.pair ((x + Extern.MathBitsCarry.m64 - y - b) % Extern.MathBitsCarry.m64) (if x < y + b then 1 else 0))
theorem run_sub64Row {P : Program} (x y b : Nat) (hb : b ≤ 1) (w : World) :
    (sub64Row #[.int .u64 x, .int .u64 y, .int .u64 b]).run P w = .ok (.tuple #[.int .u64 (((x + 18446744073709551616 - y - b) % 18446744073709551616 : Nat) : Int), .int .u64 ((if x < y + b then 1 else 0 : Nat) : Int)]) w := by
  have : b = 0 ∨ b = 1 := by omega
  rcases this with rfl | rfl <;> rfl
noncomputable def bor : Int → Int → Int := opq fun x y => if x < y then 1 else 0
theorem xDp (x y : Int) : bor x y = if x < y then 1 else 0 := by unfold bor; rw [xCe]
theorem bor_lo (x y : Int) : 0 ≤ bor x y := by rw [xDp]; split <;> decide
theorem bor_hi (x y : Int) : bor x y ≤ 1 := by rw [xDp]; split <;> decide
theorem sub64 (x y b : Int) (hx : 0 ≤ x) (hy : 0 ≤ y) (hy' : y < 18446744073709551616) (hb0 : 0 ≤ b) (hb : b ≤ 1) (w : World) : (callFunc 95 #[.int .u64 x, .int .u64 y, .int .u64 b]).run Tryz.prog w =
    .ok (.value (.tuple #[.int .u64 ((x - y - b) % 18446744073709551616), .int .u64 (bor x (y + b))])) w := by
  obtain ⟨x, rfl⟩ := Int.eq_ofNat_of_zero_le hx
  obtain ⟨y, rfl⟩ := Int.eq_ofNat_of_zero_le hy
  obtain ⟨b, rfl⟩ := Int.eq_ofNat_of_zero_le hb0
  rw [run_callFunc_extern Tryz.func95 (by kernel_rfl) (by kernel_rfl) (by kernel_rfl) (e := sub64Row) (by kernel_rfl), run_sub64Row x y b (by omega)]
  have e1 : (((x + 18446744073709551616 - y - b) % 18446744073709551616 : Nat) : Int) = ((x : Int) - y - b) % 18446744073709551616 := by omega
  have e2 : ((if x < y + b then 1 else 0 : Nat) : Int) = bor (x : Int) (y + b) := by rw [xDp]; split <;> split <;> omega
  rw [← e1, ← e2]
  rfl
theorem four (a : Nat) (h : a < B) : (a : Int) = wd a 0 + 18446744073709551616 * (wd a 1 + 18446744073709551616 * (wd a 2 + 18446744073709551616 * wd a 3)) := by
  have h1 := ofW_w64 a
  rw [Nat.mod_eq_of_lt h] at h1
  simp only [wd_eq]
  unfold ofW at h1
  omega
theorem nl_eq (n : Nat) (a b c d : Int) (ha : 0 ≤ a ∧ a < 18446744073709551616) (hb : 0 ≤ b ∧ b < 18446744073709551616) (hc : 0 ≤ c ∧ c < 18446744073709551616) (hd : 0 ≤ d ∧ d < 18446744073709551616)
    (k : Int) (h : (n : Int) = a + 18446744073709551616 * (b + 18446744073709551616 * (c + 18446744073709551616 * d)) + k * B) : [Value.int .u64 a, .int .u64 b, .int .u64 c, .int .u64 d] = nl n := by
  rw [nl_of a b c d ha hb hc hd, ← nl_mod n]
  have hlt := ofW_lt a.toNat b.toNat c.toNat d.toNat (by omega) (by omega) (by omega) (by omega)
  congr 1
  have e : (ofW a.toNat b.toNat c.toNat d.toNat : Int) = a + 18446744073709551616 * (b + 18446744073709551616 * (c + 18446744073709551616 * d)) := by unfold ofW; omega
  have e2 : ((n % B : Nat) : Int) = (ofW a.toNat b.toNat c.toNat d.toNat : Int) := by
    rw [Int.natCast_emod, h, Int.add_mul_emod_self_right, ← e]
    exact Int.emod_eq_of_lt (by omega) (by omega)
  omega
theorem nl_add (a b : Nat) (ha : a < B) (hb : b < B) (c1 c2 c3 c4 : Int) (h1 : c1 = (wd a 0 + wd b 0) / 18446744073709551616) (h2 : c2 = (wd a 1 + wd b 1 + c1) / 18446744073709551616) (h3 : c3 = (wd a 2 + wd b 2 + c2) / 18446744073709551616)
    (h4 : c4 = (wd a 3 + wd b 3 + c3) / 18446744073709551616) :
    [Value.int .u64 ((wd a 0 + wd b 0) % 18446744073709551616), .int .u64 ((wd a 1 + wd b 1 + c1) % 18446744073709551616), .int .u64 ((wd a 2 + wd b 2 + c2) % 18446744073709551616), .int .u64 ((wd a 3 + wd b 3 + c3) % 18446744073709551616)] = nl (a + b) ∧ c4 = (((a + b) / B : Nat) : Int) := by
  have ea := four a ha
  have eb := four b hb
  have hB : (B : Int) = 18446744073709551616 * 18446744073709551616 * 18446744073709551616 * 18446744073709551616 := by rw [B_eq]; rfl
  have l := fun i => wd_lo a i
  have u := fun i => wd_hi a i
  have l' := fun i => wd_lo b i
  have u' := fun i => wd_hi b i
  have a0 := l 0; have a1 := l 1; have a2 := l 2; have a3 := l 3; have A0 := u 0; have A1 := u 1; have A2 := u 2; have A3 := u 3
  have b0 := l' 0; have b1 := l' 1; have b2 := l' 2; have b3 := l' 3; have B0 := u' 0; have B1 := u' 1; have B2 := u' 2; have B3 := u' 3
  clear l u l' u'
  have key : ((a + b : Nat) : Int) = (wd a 0 + wd b 0) % 18446744073709551616 + 18446744073709551616 * ((wd a 1 + wd b 1 + c1) % 18446744073709551616 + 18446744073709551616 * ((wd a 2 + wd b 2 + c2) % 18446744073709551616 + 18446744073709551616 * ((wd a 3 + wd b 3 + c3) % 18446744073709551616))) + c4 * B := by
    rw [hB]; omega
  refine ⟨nl_eq _ _ _ _ _ (by omega) (by omega) (by omega) (by omega) c4 key, ?_⟩
  rw [Int.natCast_ediv, key]
  have q : 0 ≤ (wd a 0 + wd b 0) % 18446744073709551616 + 18446744073709551616 * ((wd a 1 + wd b 1 + c1) % 18446744073709551616 + 18446744073709551616 * ((wd a 2 + wd b 2 + c2) % 18446744073709551616 + 18446744073709551616 * ((wd a 3 + wd b 3 + c3) % 18446744073709551616))) ∧
      (wd a 0 + wd b 0) % 18446744073709551616 + 18446744073709551616 * ((wd a 1 + wd b 1 + c1) % 18446744073709551616 + 18446744073709551616 * ((wd a 2 + wd b 2 + c2) % 18446744073709551616 + 18446744073709551616 * ((wd a 3 + wd b 3 + c3) % 18446744073709551616))) < B := by rw [hB]; omega
  rw [Int.add_mul_ediv_right _ _ (by rw [hB]; decide), Int.ediv_eq_zero_of_lt q.1 q.2]
  omega
theorem bor_mod (x y c : Int) (h1 : 0 ≤ x) (h2 : x < 18446744073709551616) (h3 : 0 ≤ y) (h4 : y < 18446744073709551616) (h5 : 0 ≤ c) (h6 : c ≤ 1) :
    (x - y - c) % 18446744073709551616 = x - y - c + 18446744073709551616 * bor x (y + c) ∧ 0 ≤ bor x (y + c) ∧ bor x (y + c) ≤ 1 := by
  rw [xDp]; split <;> omega
theorem sub_core (a b B x0 x1 x2 x3 y0 y1 y2 y3 r0 r1 r2 r3 c1 c2 c3 c4 : Int) (hB : B = 18446744073709551616 * 18446744073709551616 * 18446744073709551616 * 18446744073709551616)
    (ea : a = x0 + 18446744073709551616 * (x1 + 18446744073709551616 * (x2 + 18446744073709551616 * x3))) (eb : b = y0 + 18446744073709551616 * (y1 + 18446744073709551616 * (y2 + 18446744073709551616 * y3)))
    (d1 : r0 = x0 - y0 + 18446744073709551616 * c1) (d2 : r1 = x1 - y1 - c1 + 18446744073709551616 * c2) (d3 : r2 = x2 - y2 - c2 + 18446744073709551616 * c3) (d4 : r3 = x3 - y3 - c3 + 18446744073709551616 * c4)
    (l0 : 0 ≤ r0 ∧ r0 < 18446744073709551616) (l1 : 0 ≤ r1 ∧ r1 < 18446744073709551616) (l2 : 0 ≤ r2 ∧ r2 < 18446744073709551616) (l3 : 0 ≤ r3 ∧ r3 < 18446744073709551616) (hc : c4 = 0 ∨ c4 = 1) :
    a + B - b = r0 + 18446744073709551616 * (r1 + 18446744073709551616 * (r2 + 18446744073709551616 * r3)) + (1 - c4) * B ∧ c4 = bor a b := by
  have e : a - b = r0 + 18446744073709551616 * (r1 + 18446744073709551616 * (r2 + 18446744073709551616 * r3)) - c4 * B := by
    rcases hc with rfl | rfl <;> omega
  have q : 0 ≤ r0 + 18446744073709551616 * (r1 + 18446744073709551616 * (r2 + 18446744073709551616 * r3)) ∧ r0 + 18446744073709551616 * (r1 + 18446744073709551616 * (r2 + 18446744073709551616 * r3)) < B := by omega
  clear ea eb d1 d2 d3 d4 l0 l1 l2 l3
  generalize r0 + 18446744073709551616 * (r1 + 18446744073709551616 * (r2 + 18446744073709551616 * r3)) = r at *
  rw [xDp]
  rcases hc with rfl | rfl
  · refine ⟨by omega, ?_⟩; rw [if_neg (by omega)]
  · refine ⟨by omega, ?_⟩; rw [if_pos (by omega)]
theorem nl_sub (a b : Nat) (ha : a < B) (hb : b < B) (c1 c2 c3 c4 : Int) (h1 : c1 = bor (wd a 0) (wd b 0)) (h2 : c2 = bor (wd a 1) (wd b 1 + c1)) (h3 : c3 = bor (wd a 2) (wd b 2 + c2)) (h4 : c4 = bor (wd a 3) (wd b 3 + c3)) :
    [Value.int .u64 ((wd a 0 - wd b 0) % 18446744073709551616), .int .u64 ((wd a 1 - wd b 1 - c1) % 18446744073709551616), .int .u64 ((wd a 2 - wd b 2 - c2) % 18446744073709551616), .int .u64 ((wd a 3 - wd b 3 - c3) % 18446744073709551616)] = nl (a + B - b) ∧ c4 = bor a b := by
  have hB : (B : Int) = 18446744073709551616 * 18446744073709551616 * 18446744073709551616 * 18446744073709551616 := by rw [B_eq]; rfl
  have d1 := bor_mod (wd a 0) (wd b 0) 0 (wd_lo _ _) (wd_hi _ _) (wd_lo _ _) (wd_hi _ _) (by decide) (by decide)
  simp only [Int.sub_zero, Int.add_zero] at d1
  rw [← h1] at d1
  have d2 := bor_mod (wd a 1) (wd b 1) c1 (wd_lo _ _) (wd_hi _ _) (wd_lo _ _) (wd_hi _ _) d1.2.1 d1.2.2
  rw [← h2] at d2
  have d3 := bor_mod (wd a 2) (wd b 2) c2 (wd_lo _ _) (wd_hi _ _) (wd_lo _ _) (wd_hi _ _) d2.2.1 d2.2.2
  rw [← h3] at d3
  have d4 := bor_mod (wd a 3) (wd b 3) c3 (wd_lo _ _) (wd_hi _ _) (wd_lo _ _) (wd_hi _ _) d3.2.1 d3.2.2
  rw [← h4] at d4
  have m : ∀ x : Int, 0 ≤ x % 18446744073709551616 ∧ x % 18446744073709551616 < 18446744073709551616 := fun x => by omega
  obtain ⟨k1, k2⟩ := sub_core a b B _ _ _ _ _ _ _ _ _ _ _ _ c1 c2 c3 c4 hB (four a ha) (four b hb) d1.1 d2.1 d3.1 d4.1 (m _) (m _) (m _) (m _) (by have := d4.2; omega)
  refine ⟨nl_eq _ _ _ _ _ (m _) (m _) (m _) (m _) (1 - c4) ?_, k2⟩
  rw [← k1]
  omega
noncomputable def bw : Int → Int → Int → Int := opq fun x y c => bor x (y + c)
theorem bw_def (x y c : Int) : bw x y c = bor x (y + c) := by unfold bw; rw [xCe]
theorem bw_lo (x y c : Int) : 0 ≤ bw x y c := by rw [bw_def]; exact bor_lo _ _
theorem bw_hi (x y c : Int) : bw x y c ≤ 1 := by rw [bw_def]; exact bor_hi _ _
theorem sub64' (x y b : Int) (hx : 0 ≤ x) (hy : 0 ≤ y) (hy' : y < 18446744073709551616) (hb0 : 0 ≤ b) (hb : b ≤ 1) (w : World) : (callFunc 95 #[.int .u64 x, .int .u64 y, .int .u64 b]).run Tryz.prog w =
    .ok (.value (.tuple #[.int .u64 (df x y b), .int .u64 (bw x y b)])) w := by rw [df_def, bw_def]; exact sub64 x y b hx hy hy' hb0 hb w
end Go.Proofs.YtgfoeongjhkdmaaGreat
namespace Go.Proofs.YtgfoeongjhkdmaaGreat
open Go.RowKit
set_option maxRecDepth 100000 in
set_option maxHeartbeats 1000000 in
theorem add_any (a b : Nat) (ha : a < B) (hb : b < B) (w : World) : Calls Tryz.prog 61 #[num a, num b] w fun e w' =>
    e = .returned (.tuple #[num (a + b), .int .u64 (((a + b) / B : Nat) : Int)]) ∧ Below w.heap.size w w' := by
  have a0 := wd_lo a 0; have a1 := wd_lo a 1; have a2 := wd_lo a 2; have a3 := wd_lo a 3
  have b0 := wd_lo b 0; have b1 := wd_lo b 1; have b2 := wd_lo b 2; have b3 := wd_lo b 3
  have k1 := ca_lo (wd a 0) (wd b 0) 0 a0 b0 (by decide)
  have j1 := ca_hi (wd a 0) (wd b 0) 0 (wd_hi _ _) (wd_hi _ _) (by decide)
  have k2 := ca_lo (wd a 1) (wd b 1) _ a1 b1 k1
  have j2 := ca_hi (wd a 1) (wd b 1) _ (wd_hi _ _) (wd_hi _ _) j1
  have k3 := ca_lo (wd a 2) (wd b 2) _ a2 b2 k2
  have j3 := ca_hi (wd a 2) (wd b 2) _ (wd_hi _ _) (wd_hi _ _) j2
  have hR := Rep.init w
  go_enter Tryz.func61, Tryz.ntmps61
  go_wp2_with (first | (refine' xAb hR rfl rfl rfl ?_; clear hR; intro blk w hR) | (refine' xAa hR rfl rfl inferInstance ?_; clear hR; intro blk w hR) | (refine' aAq hR rfl rfl rfl inferInstance ?_) | (refine' aBq hR rfl rfl rfl inferInstance ?_) | (refine' aCq hR rfl rfl rfl inferInstance ?_) | (refine' aDq hR rfl rfl rfl inferInstance rfl ?_; clear hR; intro w hR) | (refine' aEq hR rfl rfl rfl inferInstance rfl rfl ?_; clear hR; intro w hR) | fail)
  refine wp_loop_rounds 5 ?_
  iterate 4
    rw [rounds_succ]
    go_wp2_with (first | (refine' xAb hR rfl rfl rfl ?_; clear hR; intro blk w hR) | (refine' xAa hR rfl rfl inferInstance ?_; clear hR; intro blk w hR) | (refine' aAq hR rfl rfl rfl inferInstance ?_) | (refine' aBq hR rfl rfl rfl inferInstance ?_) | (refine' aCq hR rfl rfl rfl inferInstance ?_) | (refine' aDq hR rfl rfl rfl inferInstance rfl ?_; clear hR; intro w hR) | (refine' aEq hR rfl rfl rfl inferInstance rfl rfl ?_; clear hR; intro w hR) | fail)
    refine xAg hR [0, 0, 0, 0, 0, 0, 0, 0, 0, 0, 0, 1, 0, 2, 2] [] xCt (by kernel_rfl) rfl rfl (fun K hK => ?_)
    clear hR
    repeat ((first | (refine xBj ?_) | (refine' xAs (by decide) rfl (.inl rfl) rfl ?ha ?_) | (refine' xAs (by decide) rfl (.inr rfl) rfl ?ha ?_) | (refine' xAr rfl rfl rfl inferInstance ?hm ?hn ?ha ?_; (case hm => first | with_reducible assumption | repeat (first | exact .head _ | apply mT)); (case hn => first | rfl | simp)) | (refine' xAm rfl rfl rfl inferInstance ?hm ?hv ?hn ?ha ?_; (case hm => first | with_reducible assumption | repeat (first | exact .head _ | apply mT)); (case hv => first | with_reducible assumption | (simp only [kC, kD, kE, kF]; try rfl)); (case hn => first | rfl | simp)) | (refine' xAi rfl rfl rfl inferInstance ?hm ?hv ?ha ?_; (case hm => first | with_reducible assumption | repeat (first | exact .head _ | apply mT)); (case hv => first | rfl | with_reducible assumption)) | (refine' xAn rfl rfl rfl inferInstance ?hm ?hv ?hn ?ha ?_; (case hm => first | with_reducible assumption | repeat (first | exact .head _ | apply mT)); (case hv => first | with_reducible assumption | (simp only [kC, kD, kE, kF]; try rfl)); (case hn => first | rfl | simp)) | (refine' xAj rfl rfl rfl inferInstance ?hm ?hv ?ha ?_; (case hm => first | with_reducible assumption | repeat (first | exact .head _ | apply mT)); (case hv => first | rfl | with_reducible assumption)) | ((first | refine' xAd (by decide) rfl rfl rfl rfl (fun w => ?hq) ?ha ?_ | refine' xBf (by decide) rfl rfl rfl rfl (fun w => ?hq) ?ha ?_ | refine' xAp (by decide) rfl rfl rfl (fun w => ?hq) ?ha ?_ | refine' xAe (by decide) rfl rfl rfl (fun w => ?hq) ?ha ?_ | refine' xAo (by decide) rfl rfl rfl (fun w => ?hq) ?ha ?_ | refine' xBd (by decide) rfl rfl rfl rfl (fun w => ?hq) ?ha ?_ | refine' xBc (by decide) rfl rfl rfl rfl rfl rfl (fun w => ?hq) ?ha ?_ | refine' xBb (by decide) rfl rfl (fun w => ?hq) ?ha ?_ | refine' xAq (by decide) rfl rfl rfl (fun w => ?hq) ?ha ?_ | refine' xBe (by decide) rfl rfl rfl (fun w => ?hq) ?ha ?_); (case hq => go_simp; try rfl)) | (refine' xAh (by decide) rfl rfl rfl ?ha ?_) | (refine' xBl (by decide) rfl rfl rfl rfl ?ha ?_) | (refine' xBk (by decide) rfl ?ha ?_) | (refine' hd_extern (by decide) rfl rfl rfl (fun w => ?hq) ?ha ?_; (case hq => first | exact add64' _ _ _ (by assumption) (by assumption) (by first | assumption | decide) (by first | assumption | decide) w | (rw [add64' _ _ _ (by assumption) (by assumption) (by first | assumption | decide) (by first | assumption | decide) w])))); try (case ha => simp only [kP, kQ, kA, kB]; try rfl))
    refine xBs (hK _ _ ?_)
    clear hK K
    refine xBx (fun Q hQ => ?_)
    try simp only [List.nil_append, List.cons_append]
    repeat ((first | refine' xBa rfl (.inl rfl) rfl ?hk ?ha ?_ | refine' xBa rfl (.inr rfl) rfl ?hk ?ha ?_ | (refine' xAv rfl rfl rfl inferInstance rfl ?hs rfl rfl ?hn ?hk ?ha ?_; (case hs => repeat (first | exact xAx.head | apply xAx.tail)); (case hn => first | rfl | simp)) | (refine' xAl rfl rfl rfl inferInstance rfl rfl ?hs ?hn ?hl ?hk ?ha ?_; (case hs => repeat (first | exact xAx.head | apply xAx.tail)); (case hn => first | exact oD rfl | (show _ < 4; with_reducible assumption) | (simp; try omega)); (case hl => first | with_reducible assumption | (simp only [nl, kA, kB]; first | done | rfl) | rfl)) | (refine' xAw rfl rfl rfl inferInstance rfl rfl ?hvn ?hs ?hn ?hl ?hk ?ha ?_; (case hvn => first | rfl | simp); (case hs => repeat (first | exact xAx.head | apply xAx.tail)); (case hn => first | exact oD rfl | (show _ < 4; with_reducible assumption) | (simp; try omega)); (case hl => first | with_reducible assumption | (simp only [nl, kA, kB]; first | done | rfl) | rfl)) | (refine' xBm rfl (fun w => ?hq) ?hk ?ha ?_; (case hq => go_simp; try rfl))); (case hk => intro p hp; first | exact absurd hp List.not_mem_nil | (obtain rfl := List.mem_singleton.1 hp; repeat (first | exact List.Mem.head _ | apply mT))); (case ha => simp only [kP, kQ, kA, kB]; try rfl))
    refine xBw (fun w hR => hQ _ _ ?_)
    clear hQ Q
    go_wp2_with (first | (refine' xAb hR rfl rfl rfl ?_; clear hR; intro blk w hR) | (refine' xAa hR rfl rfl inferInstance ?_; clear hR; intro blk w hR) | (refine' aAq hR rfl rfl rfl inferInstance ?_) | (refine' aBq hR rfl rfl rfl inferInstance ?_) | (refine' aCq hR rfl rfl rfl inferInstance ?_) | (refine' aDq hR rfl rfl rfl inferInstance rfl ?_; clear hR; intro w hR) | (refine' aEq hR rfl rfl rfl inferInstance rfl rfl ?_; clear hR; intro w hR) | fail)
  rw [rounds_succ]
  go_wp2_with (first | (refine' xAb hR rfl rfl rfl ?_; clear hR; intro blk w hR) | (refine' xAa hR rfl rfl inferInstance ?_; clear hR; intro blk w hR) | (refine' aAq hR rfl rfl rfl inferInstance ?_) | (refine' aBq hR rfl rfl rfl inferInstance ?_) | (refine' aCq hR rfl rfl rfl inferInstance ?_) | (refine' aDq hR rfl rfl rfl inferInstance rfl ?_; clear hR; intro w hR) | (refine' aEq hR rfl rfl rfl inferInstance rfl rfl ?_; clear hR; intro w hR) | fail)
  refine' bodyPost_ret (xAz Tryz.results61 rfl (hR.loadAll (P := Tryz.prog) (ty := 24) ?hm ?hn)) rfl ⟨?_, hR.below⟩
  case hm => exact List.Mem.head _
  case hn => rfl
  obtain ⟨e1, e2⟩ := nl_add a b ha hb _ _ _ _ rfl rfl rfl rfl
  show Ending.returned (.tuple #[.agg (List.toArray [_, _, _, _]), .int .u64 _]) = _
  simp only [sm_def, ca_def, Int.add_zero]
  rw [e1, e2]
end Go.Proofs.YtgfoeongjhkdmaaGreat
namespace Go.Proofs.YtgfoeongjhkdmaaGreat
open Go.RowKit
set_option maxRecDepth 100000 in
set_option maxHeartbeats 1000000 in
theorem sub_any (a b : Nat) (ha : a < B) (hb : b < B) (w : World) : Calls Tryz.prog 62 #[num a, num b] w fun e w' =>
    e = .returned (.tuple #[num (a + B - b), .int .u64 (bor a b)]) ∧ Below w.heap.size w w' := by
  have a0 := wd_lo a 0; have a1 := wd_lo a 1; have a2 := wd_lo a 2; have a3 := wd_lo a 3
  have b0 := wd_lo b 0; have b1 := wd_lo b 1; have b2 := wd_lo b 2; have b3 := wd_lo b 3
  have v0 := wd_hi b 0; have v1 := wd_hi b 1; have v2 := wd_hi b 2; have v3 := wd_hi b 3
  have k1 := bw_lo (wd a 0) (wd b 0) 0
  have j1 := bw_hi (wd a 0) (wd b 0) 0
  have k2 := bw_lo (wd a 1) (wd b 1) (bw (wd a 0) (wd b 0) 0)
  have j2 := bw_hi (wd a 1) (wd b 1) (bw (wd a 0) (wd b 0) 0)
  have k3 := bw_lo (wd a 2) (wd b 2) (bw (wd a 1) (wd b 1) (bw (wd a 0) (wd b 0) 0))
  have j3 := bw_hi (wd a 2) (wd b 2) (bw (wd a 1) (wd b 1) (bw (wd a 0) (wd b 0) 0))
  have hR := Rep.init w
  go_enter Tryz.func62, Tryz.ntmps62
  go_wp2_with (first | (refine' xAb hR rfl rfl rfl ?_; clear hR; intro blk w hR) | (refine' xAa hR rfl rfl inferInstance ?_; clear hR; intro blk w hR) | (refine' aAq hR rfl rfl rfl inferInstance ?_) | (refine' aBq hR rfl rfl rfl inferInstance ?_) | (refine' aCq hR rfl rfl rfl inferInstance ?_) | (refine' aDq hR rfl rfl rfl inferInstance rfl ?_; clear hR; intro w hR) | (refine' aEq hR rfl rfl rfl inferInstance rfl rfl ?_; clear hR; intro w hR) | fail)
  refine wp_loop_rounds 5 ?_
  iterate 4
    rw [rounds_succ]
    go_wp2_with (first | (refine' xAb hR rfl rfl rfl ?_; clear hR; intro blk w hR) | (refine' xAa hR rfl rfl inferInstance ?_; clear hR; intro blk w hR) | (refine' aAq hR rfl rfl rfl inferInstance ?_) | (refine' aBq hR rfl rfl rfl inferInstance ?_) | (refine' aCq hR rfl rfl rfl inferInstance ?_) | (refine' aDq hR rfl rfl rfl inferInstance rfl ?_; clear hR; intro w hR) | (refine' aEq hR rfl rfl rfl inferInstance rfl rfl ?_; clear hR; intro w hR) | fail)
    refine xAg hR [0, 0, 0, 0, 0, 0, 0, 0, 0, 0, 0, 1, 0, 2, 2] [] xCt (by kernel_rfl) rfl rfl (fun K hK => ?_)
    clear hR
    repeat ((first | (refine xBj ?_) | (refine' xAs (by decide) rfl (.inl rfl) rfl ?ha ?_) | (refine' xAs (by decide) rfl (.inr rfl) rfl ?ha ?_) | (refine' xAr rfl rfl rfl inferInstance ?hm ?hn ?ha ?_; (case hm => first | with_reducible assumption | repeat (first | exact .head _ | apply mT)); (case hn => first | rfl | simp)) | (refine' xAm rfl rfl rfl inferInstance ?hm ?hv ?hn ?ha ?_; (case hm => first | with_reducible assumption | repeat (first | exact .head _ | apply mT)); (case hv => first | with_reducible assumption | (simp only [kC, kD, kE, kF]; try rfl)); (case hn => first | rfl | simp)) | (refine' xAi rfl rfl rfl inferInstance ?hm ?hv ?ha ?_; (case hm => first | with_reducible assumption | repeat (first | exact .head _ | apply mT)); (case hv => first | rfl | with_reducible assumption)) | (refine' xAn rfl rfl rfl inferInstance ?hm ?hv ?hn ?ha ?_; (case hm => first | with_reducible assumption | repeat (first | exact .head _ | apply mT)); (case hv => first | with_reducible assumption | (simp only [kC, kD, kE, kF]; try rfl)); (case hn => first | rfl | simp)) | (refine' xAj rfl rfl rfl inferInstance ?hm ?hv ?ha ?_; (case hm => first | with_reducible assumption | repeat (first | exact .head _ | apply mT)); (case hv => first | rfl | with_reducible assumption)) | ((first | refine' xAd (by decide) rfl rfl rfl rfl (fun w => ?hq) ?ha ?_ | refine' xBf (by decide) rfl rfl rfl rfl (fun w => ?hq) ?ha ?_ | refine' xAp (by decide) rfl rfl rfl (fun w => ?hq) ?ha ?_ | refine' xAe (by decide) rfl rfl rfl (fun w => ?hq) ?ha ?_ | refine' xAo (by decide) rfl rfl rfl (fun w => ?hq) ?ha ?_ | refine' xBd (by decide) rfl rfl rfl rfl (fun w => ?hq) ?ha ?_ | refine' xBc (by decide) rfl rfl rfl rfl rfl rfl (fun w => ?hq) ?ha ?_ | refine' xBb (by decide) rfl rfl (fun w => ?hq) ?ha ?_ | refine' xAq (by decide) rfl rfl rfl (fun w => ?hq) ?ha ?_ | refine' xBe (by decide) rfl rfl rfl (fun w => ?hq) ?ha ?_); (case hq => go_simp; try rfl)) | (refine' xAh (by decide) rfl rfl rfl ?ha ?_) | (refine' xBl (by decide) rfl rfl rfl rfl ?ha ?_) | (refine' xBk (by decide) rfl ?ha ?_) | (refine' hd_extern (by decide) rfl rfl rfl (fun w => ?hq) ?ha ?_; (case hq => first | exact sub64' _ _ _ (by assumption) (by assumption) (by assumption) (by first | assumption | decide) (by first | assumption | decide) w | (rw [sub64' _ _ _ (by assumption) (by assumption) (by assumption) (by first | assumption | decide) (by first | assumption | decide) w])))); try (case ha => simp only [kP, kQ, kA, kB]; try rfl))
    refine xBs (hK _ _ ?_)
    clear hK K
    refine xBx (fun Q hQ => ?_)
    try simp only [List.nil_append, List.cons_append]
    repeat ((first | refine' xBa rfl (.inl rfl) rfl ?hk ?ha ?_ | refine' xBa rfl (.inr rfl) rfl ?hk ?ha ?_ | (refine' xAv rfl rfl rfl inferInstance rfl ?hs rfl rfl ?hn ?hk ?ha ?_; (case hs => repeat (first | exact xAx.head | apply xAx.tail)); (case hn => first | rfl | simp)) | (refine' xAl rfl rfl rfl inferInstance rfl rfl ?hs ?hn ?hl ?hk ?ha ?_; (case hs => repeat (first | exact xAx.head | apply xAx.tail)); (case hn => first | exact oD rfl | (show _ < 4; with_reducible assumption) | (simp; try omega)); (case hl => first | with_reducible assumption | (simp only [nl, kA, kB]; first | done | rfl) | rfl)) | (refine' xAw rfl rfl rfl inferInstance rfl rfl ?hvn ?hs ?hn ?hl ?hk ?ha ?_; (case hvn => first | rfl | simp); (case hs => repeat (first | exact xAx.head | apply xAx.tail)); (case hn => first | exact oD rfl | (show _ < 4; with_reducible assumption) | (simp; try omega)); (case hl => first | with_reducible assumption | (simp only [nl, kA, kB]; first | done | rfl) | rfl)) | (refine' xBm rfl (fun w => ?hq) ?hk ?ha ?_; (case hq => go_simp; try rfl))); (case hk => intro p hp; first | exact absurd hp List.not_mem_nil | (obtain rfl := List.mem_singleton.1 hp; repeat (first | exact List.Mem.head _ | apply mT))); (case ha => simp only [kP, kQ, kA, kB]; try rfl))
    refine xBw (fun w hR => hQ _ _ ?_)
    clear hQ Q
    go_wp2_with (first | (refine' xAb hR rfl rfl rfl ?_; clear hR; intro blk w hR) | (refine' xAa hR rfl rfl inferInstance ?_; clear hR; intro blk w hR) | (refine' aAq hR rfl rfl rfl inferInstance ?_) | (refine' aBq hR rfl rfl rfl inferInstance ?_) | (refine' aCq hR rfl rfl rfl inferInstance ?_) | (refine' aDq hR rfl rfl rfl inferInstance rfl ?_; clear hR; intro w hR) | (refine' aEq hR rfl rfl rfl inferInstance rfl rfl ?_; clear hR; intro w hR) | fail)
  rw [rounds_succ]
  go_wp2_with (first | (refine' xAb hR rfl rfl rfl ?_; clear hR; intro blk w hR) | (refine' xAa hR rfl rfl inferInstance ?_; clear hR; intro blk w hR) | (refine' aAq hR rfl rfl rfl inferInstance ?_) | (refine' aBq hR rfl rfl rfl inferInstance ?_) | (refine' aCq hR rfl rfl rfl inferInstance ?_) | (refine' aDq hR rfl rfl rfl inferInstance rfl ?_; clear hR; intro w hR) | (refine' aEq hR rfl rfl rfl inferInstance rfl rfl ?_; clear hR; intro w hR) | fail)
  refine' bodyPost_ret (xAz Tryz.results62 rfl (hR.loadAll (P := Tryz.prog) (ty := 24) ?hm ?hn)) rfl ⟨?_, hR.below⟩
  case hm => exact List.Mem.head _
  case hn => rfl
  obtain ⟨e1, e2⟩ := nl_sub a b ha hb _ _ _ _ rfl rfl rfl rfl
  show Ending.returned (.tuple #[.agg (List.toArray [_, _, _, _]), .int .u64 _]) = _
  simp only [df_def, bw_def, Int.add_zero, Int.sub_zero]
  rw [e1, e2]
end Go.Proofs.YtgfoeongjhkdmaaGreat
namespace Go.Proofs.YtgfoeongjhkdmaaGreat
open Go.RowKit
theorem nl_small (n : Nat) (h : n < 18446744073709551616) : nl n = [.int .u64 (n : Int), .int .u64 0, .int .u64 0, .int .u64 0] := by
  have e := nl_ofW n 0 0 0 h (by decide) (by decide) (by decide)
  have e2 : ofW n 0 0 0 = n := by unfold ofW; omega
  rw [e2] at e
  exact e
theorem lt_B {n : Nat} (h : n < 18446744073709551616) : n < B := by rw [B_eq]; omega
noncomputable def cmpN : Nat → Nat → Int := opq fun a b => if a = b then 0 else if a < b then -1 else 1
theorem cmpN_def (a b : Nat) : cmpN a b = if a = b then 0 else if a < b then -1 else 1 := by unfold cmpN; rw [xCe]
theorem cmpN_le (a b : Nat) : cmpN a b ≤ 0 ↔ a ≤ b := by rw [cmpN_def]; split <;> (try split) <;> omega
theorem cmpN_lt (a b : Nat) : cmpN a b < 0 ↔ a < b := by rw [cmpN_def]; split <;> (try split) <;> omega
theorem cmpN_ge (a b : Nat) : 0 ≤ cmpN a b ↔ b ≤ a := by rw [cmpN_def]; split <;> (try split) <;> omega
theorem cmpN_gt (a b : Nat) : 0 < cmpN a b ↔ b < a := by rw [cmpN_def]; split <;> (try split) <;> omega
theorem of_any (n : Nat) (hn : n < 18446744073709551616) (w : World) : Calls Tryz.prog 39 #[.int .u64 (n : Int)] w fun e w' =>
    e = .returned (num n) ∧ Below w.heap.size w w' := by
  have hR := Rep.init w
  go_enter Tryz.func39, Tryz.ntmps39
  go_wp2_with (first | (refine' xAb hR rfl rfl rfl ?_; clear hR; intro blk w hR) | (refine' xAa hR rfl rfl inferInstance ?_; clear hR; intro blk w hR) | (refine' aAq hR rfl rfl rfl inferInstance ?_) | (refine' aBq hR rfl rfl rfl inferInstance ?_) | (refine' aCq hR rfl rfl rfl inferInstance ?_) | (refine' aDq hR rfl rfl rfl inferInstance rfl ?_; clear hR; intro w hR) | (refine' aEq hR rfl rfl rfl inferInstance rfl rfl ?_; clear hR; intro w hR) | fail)
  (refine' bodyPost_ret (xBq Tryz.results39 rfl (hR.loadAll (P := Tryz.prog) (ty := 24) ?hm ?hn)) rfl ⟨?_, hR.below⟩; (case hm => first | with_reducible assumption | repeat (first | exact .head _ | apply mT)); (case hn => first | rfl | simp))
  show Ending.returned (.agg (List.toArray _)) = _
  unfold num
  rw [nl_small n hn]
theorem cmp_c1 {a b : Nat} (ha : a < B) (hb : b < B) (h : eqN a b = true) : (0 : Int) = cmpN a b := by
  rw [eqN_def, Nat.mod_eq_of_lt ha, Nat.mod_eq_of_lt hb, decide_eq_true_iff] at h
  rw [cmpN_def, if_pos h]
theorem cmp_c2 {a b : Nat} (ha : a < B) (hb : b < B) (h : eqN a b = false) (k : (bor a b == 1) = true) : (-1 : Int) = cmpN a b := by
  rw [eqN_def, Nat.mod_eq_of_lt ha, Nat.mod_eq_of_lt hb, decide_eq_false_iff_not] at h
  rw [cmpN_def, if_neg h]
  rw [xDp] at k
  by_cases q : (a : Int) < b
  · rw [if_pos (by omega)]
  · rw [if_neg q] at k; cases k
theorem cmp_c3 {a b : Nat} (ha : a < B) (hb : b < B) (h : eqN a b = false) (k : (bor a b == 1) = false) : (1 : Int) = cmpN a b := by
  rw [eqN_def, Nat.mod_eq_of_lt ha, Nat.mod_eq_of_lt hb, decide_eq_false_iff_not] at h
  rw [cmpN_def, if_neg h]
  rw [xDp] at k
  by_cases q : (a : Int) < b
  · rw [if_pos q] at k; cases k
  · rw [if_neg (by omega)]
set_option maxRecDepth 100000 in
set_option maxHeartbeats 1000000 in
theorem cmp_any (a b : Nat) (ha : a < B) (hb : b < B) (w : World) : Calls Tryz.prog 41 #[num a, num b] w fun e w' =>
    e = .returned (.int .i64 (cmpN a b)) ∧ Below w.heap.size w w' := by
  have hR := Rep.init w
  go_enter Tryz.func41, Tryz.ntmps41
  go_wp2_with (first | (refine' xAb hR rfl rfl rfl ?_; clear hR; intro blk w hR) | (refine' xAa hR rfl rfl inferInstance ?_; clear hR; intro blk w hR) | (refine' aAq hR rfl rfl rfl inferInstance ?_) | (refine' aBq hR rfl rfl rfl inferInstance ?_) | (refine' aCq hR rfl rfl rfl inferInstance ?_) | (refine' aDq hR rfl rfl rfl inferInstance rfl ?_; clear hR; intro w hR) | (refine' aEq hR rfl rfl rfl inferInstance rfl rfl ?_; clear hR; intro w hR) | (go_at_call 62; refine (sub_any a b ha hb _).mono ?_; rintro e w ⟨rfl, hb⟩; replace hR := hR.call hb; clear hb))
  all_goals go_ret
  · exact ⟨congrArg (fun x => Ending.returned (.int .i64 x)) (cmp_c1 ha hb (by assumption)), hR.below⟩
  · exact ⟨congrArg (fun x => Ending.returned (.int .i64 x)) (cmp_c2 ha hb (by assumption) (by assumption)), hR.below⟩
  · exact ⟨congrArg (fun x => Ending.returned (.int .i64 x)) (cmp_c3 ha hb (by assumption) (by assumption)), hR.below⟩
end Go.Proofs.YtgfoeongjhkdmaaGreat
namespace Go.Proofs.YtgfoeongjhkdmaaGreat
open Go.RowKit
noncomputable def bitN : Nat → Int → Int := opq fun a i => if i < 0 ∨ 256 ≤ i then 0 else ((a / 2 ^ i.toNat % 2 : Nat) : Int)
theorem bitN_def (a : Nat) (i : Int) : bitN a i = if i < 0 ∨ 256 ≤ i then 0 else ((a / 2 ^ i.toNat % 2 : Nat) : Int) := by unfold bitN; rw [xCe]
theorem nl_at (a k : Nat) (h : k < 4) : (nl a)[k]? = some (.int .u64 (wd a k)) := by
  have : k = 0 ∨ k = 1 ∨ k = 2 ∨ k = 3 := by omega
  unfold nl
  rcases this with rfl | rfl | rfl | rfl <;> rfl
theorem pow64 (k : Nat) : 18446744073709551616 ^ k = 2 ^ (64 * k) := by rw [show 18446744073709551616 = 2 ^ 64 by decide, ← Nat.pow_mul]
theorem bits_and1 (x : Int) (h0 : 0 ≤ x) (h1 : x < 18446744073709551616) : bits .and .u64 x 1 = x % 2 := by
  obtain ⟨n, rfl⟩ := Int.eq_ofNat_of_zero_le h0
  have := bits_and_u64_nat n 1 (by omega) (by decide)
  rw [Nat.and_one_is_mod] at this
  rw [show ((1 : Nat) : Int) = 1 from rfl] at this
  rw [this]; omega
theorem bit_of_word (a j r : Nat) (hr : r < 64) : (w64 a j / 2 ^ r) % 2 = a / 2 ^ (64 * j + r) % 2 := by
  unfold w64
  rw [pow64, Nat.pow_add, ← Nat.div_div_eq_div_mul]
  generalize a / 2 ^ (64 * j) = x
  have e1 : (x % 18446744073709551616 / 2 ^ r) % 2 = if (x % 2 ^ 64).testBit r then 1 else 0 := by
    rw [Nat.testBit_eq_decide_div_mod_eq, show (2 : Nat) ^ 64 = 18446744073709551616 by decide]
    by_cases q : x % 18446744073709551616 / 2 ^ r % 2 = 1
    · simp [q]
    · simp [q]; omega
  have e2 : (x / 2 ^ r) % 2 = if x.testBit r then 1 else 0 := by
    rw [Nat.testBit_eq_decide_div_mod_eq]
    by_cases q : x / 2 ^ r % 2 = 1
    · simp [q]
    · simp [q]; omega
  rw [e1, e2, Nat.testBit_mod_two_pow]
  simp [hr]
theorem bit_plain (a : Nat) (i : Int) (h : ¬(i < 0 ∨ 256 ≤ i)) : bits .and .u64 (wd a (i / 64).toNat / 2 ^ (i % 64).toNat) 1 = bitN a i := by
  rw [bitN_def, if_neg h, wd_eq]
  obtain ⟨n, rfl⟩ := Int.eq_ofNat_of_zero_le (show 0 ≤ i by omega)
  have e1 : ((n : Int) / 64).toNat = n / 64 := by omega
  have e2 : ((n : Int) % 64).toNat = n % 64 := by omega
  rw [e1, e2, show (2 : Int) ^ (n % 64) = ((2 ^ (n % 64) : Nat) : Int) by simp, ← Int.natCast_ediv]
  have lt : w64 a (n / 64) / 2 ^ (n % 64) < 18446744073709551616 := Nat.lt_of_le_of_lt (Nat.div_le_self _ _) (w64_lt _ _)
  have := bit_of_word a (n / 64) (n % 64) (by omega)
  rw [show 64 * (n / 64) + n % 64 = n by omega] at this
  rw [Int.toNat_natCast, ← this]
  generalize w64 a (n / 64) / 2 ^ (n % 64) = q at lt ⊢
  rw [bits_and1 _ (by omega) (by omega)]
  omega
set_option maxRecDepth 100000 in
set_option maxHeartbeats 1000000 in
theorem bit_any (a : Nat) (i : Int) (ha : a < B) (w : World) : Calls Tryz.prog 80 #[num a, .int .i64 i] w fun e w' =>
    e = .returned (.int .u64 (bitN a i)) ∧ Below w.heap.size w w' := by
  have hR := Rep.init w
  by_cases h : i < 0 ∨ 256 ≤ i
  · have hb : bitN a i = 0 := by rw [bitN_def, if_pos h]
    rw [hb]
    go_enter Tryz.func80, Tryz.ntmps80
    go_wp2_with (first | (refine' xAb hR rfl rfl rfl ?_; clear hR; intro blk w hR) | (refine' xAa hR rfl rfl inferInstance ?_; clear hR; intro blk w hR) | (refine' aAq hR rfl rfl rfl inferInstance ?_) | (refine' aBq hR rfl rfl rfl inferInstance ?_) | (refine' aCq hR rfl rfl rfl inferInstance ?_) | (refine' aDq hR rfl rfl rfl inferInstance rfl ?_; clear hR; intro w hR) | (refine' aEq hR rfl rfl rfl inferInstance rfl rfl ?_; clear hR; intro w hR) | fail)
    all_goals first | (exfalso; omega; done) | skip
    all_goals go_ret
    all_goals exact ⟨rfl, hR.below⟩
  · have hv := nl_at a (i / 64).toNat (by omega)
    have l0 := wd_lo a (i / 64).toNat
    have l1 := wd_hi a (i / 64).toNat
    go_enter Tryz.func80, Tryz.ntmps80
    go_wp2_with (first | (refine' xAb hR rfl rfl rfl ?_; clear hR; intro blk w hR) | (refine' xAa hR rfl rfl inferInstance ?_; clear hR; intro blk w hR) | (refine' aAq hR rfl rfl rfl inferInstance ?_) | (refine' aBq hR rfl rfl rfl inferInstance ?_) | (refine' aCq hR rfl rfl rfl inferInstance ?_) | (refine' aDq hR rfl rfl rfl inferInstance rfl ?_; clear hR; intro w hR) | (refine' aEq hR rfl rfl rfl inferInstance rfl rfl ?_; clear hR; intro w hR) | fail)
    all_goals first | (exfalso; omega; done) | skip
    all_goals go_ret
    exact ⟨congrArg (fun x => Ending.returned (.int .u64 x)) (bit_plain a i h), hR.below⟩
theorem bitN_nat (a k : Nat) (h : k < 256) : bitN a k = ((a / 2 ^ k % 2 : Nat) : Int) := by
  rw [bitN_def, if_neg (by omega)]; rfl
noncomputable def blen : Nat → Nat := opq fun a => if a = 0 then 0 else a.log2 + 1
theorem blen_def (a : Nat) : blen a = if a = 0 then 0 else a.log2 + 1 := by unfold blen; rw [xCe]
theorem blen_lt (a : Nat) : a < 2 ^ blen a := by
  rw [blen_def]; split
  · omega
  · exact Nat.lt_log2_self
theorem blen_le {a : Nat} (h : a ≠ 0) : 2 ^ (blen a - 1) ≤ a := by
  rw [blen_def, if_neg h]; exact Nat.log2_self_le h
theorem blen_zero (a : Nat) : blen a = 0 ↔ a = 0 := by rw [blen_def]; split <;> omega
theorem blen_of {a k : Nat} (h1 : 2 ^ k ≤ a) (h2 : a < 2 ^ (k + 1)) : blen a = k + 1 := by
  have h0 : a ≠ 0 := by have := Nat.two_pow_pos k; omega
  rw [blen_def, if_neg h0]
  have := (Nat.log2_lt h0).mpr h2
  have := (Nat.le_log2 h0).mpr h1
  omega
theorem xCh (a k : Nat) : blen a ≤ k ↔ a < 2 ^ k := by
  constructor
  · intro h; exact Nat.lt_of_lt_of_le (blen_lt a) (Nat.pow_le_pow_right (by decide) h)
  · intro h
    by_cases h0 : a = 0
    · have := (blen_zero a).mpr h0; omega
    · have h1 := blen_le h0
      have := (Nat.pow_lt_pow_iff_right (a := 2) (by decide)).mp (Nat.lt_of_le_of_lt h1 h)
      omega
theorem bitLenAux_eq : ∀ (f x : Nat), x < 2 ^ f → Lib.bitLenAux f x = blen x
  | 0, x, h => by
    have : x = 0 := by simpa using h
    rw [this, (blen_zero 0).mpr rfl]; rfl
  | f + 1, x, h => by
    unfold Lib.bitLenAux
    by_cases h0 : x = 0
    · rw [if_pos h0, (blen_zero x).mpr h0]
    · rw [if_neg h0, bitLenAux_eq f (x / 2) (by rw [Nat.pow_succ] at h; omega)]
      by_cases h1 : x / 2 = 0
      · rw [(blen_zero _).mpr h1, blen_of (k := 0) (by omega) (by omega)]
      · have l1 := blen_le h1
        have l2 := blen_lt (x / 2)
        have p : blen (x / 2) ≠ 0 := fun e => h1 ((blen_zero _).mp e)
        obtain ⟨k, hk⟩ : ∃ k, blen (x / 2) = k + 1 := ⟨blen (x / 2) - 1, by omega⟩
        rw [hk] at l1 l2 ⊢
        rw [blen_of (a := x) (k := k + 1) (by rw [Nat.pow_succ]; simp at l1; omega) (by rw [Nat.pow_succ]; omega)]
        omega
theorem bitLen_eq (x : Nat) (h : x < 18446744073709551616) : Lib.bitLen x = blen x := bitLenAux_eq 64 x h
theorem blen_word (a j : Nat) (hj : j < 4) (h : w64 a j ≠ 0) (hz : a / 2 ^ (64 * (j + 1)) = 0) : blen a = 64 * j + blen (w64 a j) := by
  have p : blen (w64 a j) ≠ 0 := fun e => h ((blen_zero _).mp e)
  have l1 := blen_le h
  have l2 := blen_lt (w64 a j)
  obtain ⟨k, hk⟩ : ∃ k, blen (w64 a j) = k + 1 := ⟨blen (w64 a j) - 1, by omega⟩
  rw [hk] at l1 l2 ⊢
  have e : w64 a j = a / 2 ^ (64 * j) := by
    unfold w64
    rw [pow64]
    apply Nat.mod_eq_of_lt
    rw [show 64 * (j + 1) = 64 * j + 64 by omega, Nat.pow_add, ← Nat.div_div_eq_div_mul, Nat.div_eq_zero_iff] at hz
    rcases hz with hz | hz
    · exact absurd hz (by decide)
    · exact hz
  rw [e] at l1 l2
  rw [show 64 * j + (k + 1) = (64 * j + k) + 1 by omega]
  apply blen_of
  · rw [Nat.pow_add, Nat.mul_comm]
    simp at l1
    exact (Nat.le_div_iff_mul_le (Nat.two_pow_pos _)).mp l1
  · rw [show 64 * j + k + 1 = 64 * j + (k + 1) by omega, Nat.pow_add, Nat.mul_comm]
    exact (Nat.div_lt_iff_lt_mul (Nat.two_pow_pos _)).mp l2
theorem Calls.below {P : Program} {f : Nat} {args : Array Value} {w : World} {v : Value} (h : Calls P f args w fun e w' => e = .returned v ∧ w' = w) :
    Calls P f args w fun e w' => e = .returned v ∧ Below w.heap.size w w' := h.mono fun e w' ⟨h1, h2⟩ => ⟨h1, by rw [h2]; exact Below.refl _ _⟩
theorem len_word (a j : Nat) (w : World) : Calls Tryz.prog 79 #[.int .u64 (wd a j)] w fun e w' =>
    e = .returned (.int .i64 ((blen (w64 a j) : Nat) : Int)) ∧ Below w.heap.size w w' := by
  have h := Tryz.bits_Len64 (wd a j) w (wd_lo _ _) (by have := wd_hi a j; omega)
  rw [wd_eq] at h ⊢
  rw [Int.toNat_natCast, bitLen_eq _ (w64_lt _ _)] at h
  exact Calls.below h
theorem blen_w64 (a j : Nat) : blen (w64 a j) ≤ 64 := (xCh _ _).mpr (w64_lt a j)
theorem bits_3 (a : Nat) (ha : a < B) (h : 0 < wd a 3) : ((blen (w64 a 3) : Nat) : Int) + 192 = blen a := by
  rw [wd_eq] at h
  rw [blen_word a 3 (by decide) (by omega) (Nat.div_eq_of_lt (by rw [B_eq] at ha; exact ha))]; omega
theorem bits_2 (a : Nat) (ha : a < B) (k3 : ¬ 0 < wd a 3) (h : 0 < wd a 2) : ((blen (w64 a 2) : Nat) : Int) + 128 = blen a := by
  rw [wd_eq] at h k3
  have := ofW_w64 a
  rw [Nat.mod_eq_of_lt ha, show w64 a 3 = 0 by omega] at this
  have l0 := w64_lt a 0; have l1 := w64_lt a 1; have l2 := w64_lt a 2
  unfold ofW at this
  rw [blen_word a 2 (by decide) (by omega) (Nat.div_eq_of_lt (by omega))]; omega
theorem bits_1 (a : Nat) (ha : a < B) (k3 : ¬ 0 < wd a 3) (k2 : ¬ 0 < wd a 2) (h : 0 < wd a 1) : ((blen (w64 a 1) : Nat) : Int) + 64 = blen a := by
  rw [wd_eq] at h k3 k2
  have := ofW_w64 a
  rw [Nat.mod_eq_of_lt ha, show w64 a 3 = 0 by omega, show w64 a 2 = 0 by omega] at this
  have l0 := w64_lt a 0; have l1 := w64_lt a 1
  unfold ofW at this
  rw [blen_word a 1 (by decide) (by omega) (Nat.div_eq_of_lt (by omega))]; omega
theorem bits_0 (a : Nat) (ha : a < B) (k3 : ¬ 0 < wd a 3) (k2 : ¬ 0 < wd a 2) (k1 : ¬ 0 < wd a 1) (h : 0 < wd a 0) : ((blen (w64 a 0) : Nat) : Int) = blen a := by
  rw [wd_eq] at h k3 k2 k1
  have := ofW_w64 a
  rw [Nat.mod_eq_of_lt ha, show w64 a 3 = 0 by omega, show w64 a 2 = 0 by omega, show w64 a 1 = 0 by omega] at this
  have l0 := w64_lt a 0
  unfold ofW at this
  rw [blen_word a 0 (by decide) (by omega) (Nat.div_eq_of_lt (by omega))]; omega
theorem bits_n (a : Nat) (ha : a < B) (k3 : ¬ 0 < wd a 3) (k2 : ¬ 0 < wd a 2) (k1 : ¬ 0 < wd a 1) (h : ¬ 0 < wd a 0) : (0 : Int) = blen a := by
  rw [wd_eq] at h k3 k2 k1
  have := ofW_w64 a
  rw [Nat.mod_eq_of_lt ha, show w64 a 3 = 0 by omega, show w64 a 2 = 0 by omega, show w64 a 1 = 0 by omega] at this
  unfold ofW at this
  have := (blen_zero a).mpr (by omega)
  omega
set_option maxRecDepth 100000 in
set_option maxHeartbeats 1000000 in
theorem bits_any (a : Nat) (ha : a < B) (w : World) : Calls Tryz.prog 46 #[num a] w fun e w' =>
    e = .returned (.int .i64 (blen a : Int)) ∧ Below w.heap.size w w' := by
  have hR := Rep.init w
  have a0 := wd_lo a 0; have a1 := wd_lo a 1; have a2 := wd_lo a 2; have a3 := wd_lo a 3
  have b0 := wd_hi a 0; have b1 := wd_hi a 1; have b2 := wd_hi a 2; have b3 := wd_hi a 3
  have c0 := blen_w64 a 0; have c1 := blen_w64 a 1; have c2 := blen_w64 a 2; have c3 := blen_w64 a 3
  go_enter Tryz.func46, Tryz.ntmps46
  go_wp2_with (first | (refine' xAb hR rfl rfl rfl ?_; clear hR; intro blk w hR) | (refine' xAa hR rfl rfl inferInstance ?_; clear hR; intro blk w hR) | (refine' aAq hR rfl rfl rfl inferInstance ?_) | (refine' aBq hR rfl rfl rfl inferInstance ?_) | (refine' aCq hR rfl rfl rfl inferInstance ?_) | (refine' aDq hR rfl rfl rfl inferInstance rfl ?_; clear hR; intro w hR) | (refine' aEq hR rfl rfl rfl inferInstance rfl rfl ?_; clear hR; intro w hR) | fail)
  refine wp_loop_rounds 5 ?_
  rw [rounds_succ]
  go_wp2_with (first | (refine' xAb hR rfl rfl rfl ?_; clear hR; intro blk w hR) | (refine' xAa hR rfl rfl inferInstance ?_; clear hR; intro blk w hR) | (refine' aAq hR rfl rfl rfl inferInstance ?_) | (refine' aBq hR rfl rfl rfl inferInstance ?_) | (refine' aCq hR rfl rfl rfl inferInstance ?_) | (refine' aDq hR rfl rfl rfl inferInstance rfl ?_; clear hR; intro w hR) | (refine' aEq hR rfl rfl rfl inferInstance rfl rfl ?_; clear hR; intro w hR) | (go_at_call 79; refine (len_word a 3 _).mono ?_; rintro e w ⟨rfl, hb⟩; replace hR := hR.call hb; clear hb))
  · go_ret
    exact ⟨congrArg (fun x => Ending.returned (.int .i64 x)) (by have := bits_3 a ha (by assumption); first | omega | (go_simp; done) | (go_simp; omega)), hR.below⟩
  rw [rounds_succ]
  go_wp2_with (first | (refine' xAb hR rfl rfl rfl ?_; clear hR; intro blk w hR) | (refine' xAa hR rfl rfl inferInstance ?_; clear hR; intro blk w hR) | (refine' aAq hR rfl rfl rfl inferInstance ?_) | (refine' aBq hR rfl rfl rfl inferInstance ?_) | (refine' aCq hR rfl rfl rfl inferInstance ?_) | (refine' aDq hR rfl rfl rfl inferInstance rfl ?_; clear hR; intro w hR) | (refine' aEq hR rfl rfl rfl inferInstance rfl rfl ?_; clear hR; intro w hR) | (go_at_call 79; refine (len_word a 2 _).mono ?_; rintro e w ⟨rfl, hb⟩; replace hR := hR.call hb; clear hb))
  · go_ret
    exact ⟨congrArg (fun x => Ending.returned (.int .i64 x)) (by have := bits_2 a ha (by omega) (by assumption); first | omega | (go_simp; done) | (go_simp; omega)), hR.below⟩
  rw [rounds_succ]
  go_wp2_with (first | (refine' xAb hR rfl rfl rfl ?_; clear hR; intro blk w hR) | (refine' xAa hR rfl rfl inferInstance ?_; clear hR; intro blk w hR) | (refine' aAq hR rfl rfl rfl inferInstance ?_) | (refine' aBq hR rfl rfl rfl inferInstance ?_) | (refine' aCq hR rfl rfl rfl inferInstance ?_) | (refine' aDq hR rfl rfl rfl inferInstance rfl ?_; clear hR; intro w hR) | (refine' aEq hR rfl rfl rfl inferInstance rfl rfl ?_; clear hR; intro w hR) | (go_at_call 79; refine (len_word a 1 _).mono ?_; rintro e w ⟨rfl, hb⟩; replace hR := hR.call hb; clear hb))
  · go_ret
    exact ⟨congrArg (fun x => Ending.returned (.int .i64 x)) (by have := bits_1 a ha (by omega) (by omega) (by assumption); first | omega | (go_simp; done) | (go_simp; omega)), hR.below⟩
  rw [rounds_succ]
  go_wp2_with (first | (refine' xAb hR rfl rfl rfl ?_; clear hR; intro blk w hR) | (refine' xAa hR rfl rfl inferInstance ?_; clear hR; intro blk w hR) | (refine' aAq hR rfl rfl rfl inferInstance ?_) | (refine' aBq hR rfl rfl rfl inferInstance ?_) | (refine' aCq hR rfl rfl rfl inferInstance ?_) | (refine' aDq hR rfl rfl rfl inferInstance rfl ?_; clear hR; intro w hR) | (refine' aEq hR rfl rfl rfl inferInstance rfl rfl ?_; clear hR; intro w hR) | (go_at_call 79; refine (len_word a 0 _).mono ?_; rintro e w ⟨rfl, hb⟩; replace hR := hR.call hb; clear hb))
  · go_ret
    exact ⟨congrArg (fun x => Ending.returned (.int .i64 x)) (by have := bits_0 a ha (by omega) (by omega) (by omega) (by assumption); first | omega | (go_simp; done) | (go_simp; omega)), hR.below⟩
  rw [rounds_succ]
  go_wp2_with (first | (refine' xAb hR rfl rfl rfl ?_; clear hR; intro blk w hR) | (refine' xAa hR rfl rfl inferInstance ?_; clear hR; intro blk w hR) | (refine' aAq hR rfl rfl rfl inferInstance ?_) | (refine' aBq hR rfl rfl rfl inferInstance ?_) | (refine' aCq hR rfl rfl rfl inferInstance ?_) | (refine' aDq hR rfl rfl rfl inferInstance rfl ?_; clear hR; intro w hR) | (refine' aEq hR rfl rfl rfl inferInstance rfl rfl ?_; clear hR; intro w hR) | fail)
  go_ret
  exact ⟨congrArg (fun x => Ending.returned (.int .i64 x)) (bits_n a ha (by omega) (by omega) (by omega) (by omega)), hR.below⟩
end Go.Proofs.YtgfoeongjhkdmaaGreat
