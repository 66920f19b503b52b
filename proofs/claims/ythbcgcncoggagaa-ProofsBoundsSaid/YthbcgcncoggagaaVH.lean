/- Plain: words, sums and differences; the model's rows for Add64 and Sub64. -/
import Derived.Test.YthbcgcncoggagaaVB
set_option linter.unusedVariables false
set_option linter.unusedSimpArgs false
namespace Go.Proofs.Ythbcgcncoggagaa
open Go.RowKit
theorem add64 (x y c : Int) (hx : 0 ≤ x) (hy : 0 ≤ y) (hc0 : 0 ≤ c) (hc : c ≤ 1) (w : World) : (callFunc 139 #[.int .u64 x, .int .u64 y, .int .u64 c]).run Try.prog w =
    .ok (.value (.tuple #[.int .u64 ((x + y + c) % 18446744073709551616), .int .u64 ((x + y + c) / 18446744073709551616)])) w := by
  rw [run_callFunc_extern Try.func139 (by kernel_rfl) (by kernel_rfl) (by kernel_rfl) (e := add64Entry) (by kernel_rfl), run_add64 x y c (by omega) (by omega) (by omega) (by omega)]
  rfl
noncomputable def sm : Int → Int → Int → Int := opq fun x y c => (x + y + c) % 18446744073709551616
noncomputable def ca : Int → Int → Int → Int := opq fun x y c => (x + y + c) / 18446744073709551616
noncomputable def df : Int → Int → Int → Int := opq fun x y c => (x - y - c) % 18446744073709551616
theorem sm_def (x y c : Int) : sm x y c = (x + y + c) % 18446744073709551616 := by unfold sm; rw [xCb]
theorem ca_def (x y c : Int) : ca x y c = (x + y + c) / 18446744073709551616 := by unfold ca; rw [xCb]
theorem df_def (x y c : Int) : df x y c = (x - y - c) % 18446744073709551616 := by unfold df; rw [xCb]
theorem ca_lo (x y c : Int) (hx : 0 ≤ x) (hy : 0 ≤ y) (hc : 0 ≤ c) : 0 ≤ ca x y c := by rw [ca_def]; omega
theorem ca_hi (x y c : Int) (hx : x < 18446744073709551616) (hy : y < 18446744073709551616) (hc : c ≤ 1) : ca x y c ≤ 1 := by rw [ca_def]; omega
theorem add64' (x y c : Int) (hx : 0 ≤ x) (hy : 0 ≤ y) (hc0 : 0 ≤ c) (hc : c ≤ 1) (w : World) : (callFunc 139 #[.int .u64 x, .int .u64 y, .int .u64 c]).run Try.prog w =
    .ok (.value (.tuple #[.int .u64 (sm x y c), .int .u64 (ca x y c)])) w := by rw [sm_def, ca_def]; exact add64 x y c hx hy hc0 hc w
def sub64Row : Array Value → Sem Value := fun args => do
  let (x, y, b) ← Extern.MathBitsCarry.three "Sub64" args
  pure (Extern.MathBitsCarry.pair ((x + Extern.MathBitsCarry.m64 - y - b) % Extern.MathBitsCarry.m64) (if x < y + b then 1 else 0))
theorem run_sub64Row {P : Program} (x y b : Nat) (hb : b ≤ 1) (w : World) :
    (sub64Row #[.int .u64 x, .int .u64 y, .int .u64 b]).run P w = .ok (.tuple #[.int .u64 (((x + 18446744073709551616 - y - b) % 18446744073709551616 : Nat) : Int), .int .u64 ((if x < y + b then 1 else 0 : Nat) : Int)]) w := by
  have : b = 0 ∨ b = 1 := by omega
  rcases this with rfl | rfl <;> rfl
noncomputable def bor : Int → Int → Int := opq fun x y => if x < y then 1 else 0
theorem bor_def (x y : Int) : bor x y = if x < y then 1 else 0 := by unfold bor; rw [xCb]
theorem bor_lo (x y : Int) : 0 ≤ bor x y := by rw [bor_def]; split <;> decide
theorem bor_hi (x y : Int) : bor x y ≤ 1 := by rw [bor_def]; split <;> decide
theorem sub64 (x y b : Int) (hx : 0 ≤ x) (hy : 0 ≤ y) (hy' : y < 18446744073709551616) (hb0 : 0 ≤ b) (hb : b ≤ 1) (w : World) : (callFunc 83 #[.int .u64 x, .int .u64 y, .int .u64 b]).run Try.prog w =
    .ok (.value (.tuple #[.int .u64 ((x - y - b) % 18446744073709551616), .int .u64 (bor x (y + b))])) w := by
  obtain ⟨x, rfl⟩ := Int.eq_ofNat_of_zero_le hx
  obtain ⟨y, rfl⟩ := Int.eq_ofNat_of_zero_le hy
  obtain ⟨b, rfl⟩ := Int.eq_ofNat_of_zero_le hb0
  rw [run_callFunc_extern Try.func83 (by kernel_rfl) (by kernel_rfl) (by kernel_rfl) (e := sub64Row) (by kernel_rfl), run_sub64Row x y b (by omega)]
  have e1 : (((x + 18446744073709551616 - y - b) % 18446744073709551616 : Nat) : Int) = ((x : Int) - y - b) % 18446744073709551616 := by omega
  have e2 : ((if x < y + b then 1 else 0 : Nat) : Int) = bor (x : Int) (y + b) := by rw [bor_def]; split <;> split <;> omega
  rw [← e1, ← e2]
  rfl
theorem four (a : Nat) (h : a < B) : (a : Int) = wd a 0 + 18446744073709551616 * (wd a 1 + 18446744073709551616 * (wd a 2 + 18446744073709551616 * wd a 3)) := by
  have h1 := ofW_w64 a
  rw [Nat.mod_eq_of_lt h] at h1
  simp only [wd_eq]
  unfold ofW at h1
  omega
theorem nl_eq (n : Nat) (a b c d : Int) (ha : 0 ≤ a ∧ a < 18446744073709551616) (hb : 0 ≤ b ∧ b < 18446744073709551616) (hc : 0 ≤ c ∧ c < 18446744073709551616) (hd : 0 ≤ d ∧ d < 18446744073709551616)
    (k : Int) (h : (n : Int) = a + 18446744073709551616 * (b + 18446744073709551616 * (c + 18446744073709551616 * d)) + k * B) : [Value.int .u64 a, .int .u64 b, .int .u64 c, .int .u64 d] = nl n := by
  rw [nl_of a b c d ha hb hc hd, ← nl_mod n]
  have hlt := ofW_lt a.toNat b.toNat c.toNat d.toNat (by omega) (by omega) (by omega) (by omega)
  congr 1
  have e : (ofW a.toNat b.toNat c.toNat d.toNat : Int) = a + 18446744073709551616 * (b + 18446744073709551616 * (c + 18446744073709551616 * d)) := by unfold ofW; omega
  have e2 : ((n % B : Nat) : Int) = (ofW a.toNat b.toNat c.toNat d.toNat : Int) := by
    rw [Int.natCast_emod, h, Int.add_mul_emod_self_right, ← e]
    exact Int.emod_eq_of_lt (by omega) (by omega)
  omega
theorem nl_add (a b : Nat) (ha : a < B) (hb : b < B) (c1 c2 c3 c4 : Int) (h1 : c1 = (wd a 0 + wd b 0) / 18446744073709551616) (h2 : c2 = (wd a 1 + wd b 1 + c1) / 18446744073709551616) (h3 : c3 = (wd a 2 + wd b 2 + c2) / 18446744073709551616)
    (h4 : c4 = (wd a 3 + wd b 3 + c3) / 18446744073709551616) :
    [Value.int .u64 ((wd a 0 + wd b 0) % 18446744073709551616), .int .u64 ((wd a 1 + wd b 1 + c1) % 18446744073709551616), .int .u64 ((wd a 2 + wd b 2 + c2) % 18446744073709551616), .int .u64 ((wd a 3 + wd b 3 + c3) % 18446744073709551616)] = nl (a + b) ∧ c4 = (((a + b) / B : Nat) : Int) := by
  have ea := four a ha
  have eb := four b hb
  have hB : (B : Int) = 18446744073709551616 * 18446744073709551616 * 18446744073709551616 * 18446744073709551616 := by rw [B_eq]; rfl
  have l := fun i => wd_lo a i
  have u := fun i => wd_hi a i
  have l' := fun i => wd_lo b i
  have u' := fun i => wd_hi b i
  have a0 := l 0; have a1 := l 1; have a2 := l 2; have a3 := l 3; have A0 := u 0; have A1 := u 1; have A2 := u 2; have A3 := u 3
  have b0 := l' 0; have b1 := l' 1; have b2 := l' 2; have b3 := l' 3; have B0 := u' 0; have B1 := u' 1; have B2 := u' 2; have B3 := u' 3
  clear l u l' u'
  have key : ((a + b : Nat) : Int) = (wd a 0 + wd b 0) % 18446744073709551616 + 18446744073709551616 * ((wd a 1 + wd b 1 + c1) % 18446744073709551616 + 18446744073709551616 * ((wd a 2 + wd b 2 + c2) % 18446744073709551616 + 18446744073709551616 * ((wd a 3 + wd b 3 + c3) % 18446744073709551616))) + c4 * B := by
    rw [hB]; omega
  refine ⟨nl_eq _ _ _ _ _ (by omega) (by omega) (by omega) (by omega) c4 key, ?_⟩
  rw [Int.natCast_ediv, key]
  have q : 0 ≤ (wd a 0 + wd b 0) % 18446744073709551616 + 18446744073709551616 * ((wd a 1 + wd b 1 + c1) % 18446744073709551616 + 18446744073709551616 * ((wd a 2 + wd b 2 + c2) % 18446744073709551616 + 18446744073709551616 * ((wd a 3 + wd b 3 + c3) % 18446744073709551616))) ∧
      (wd a 0 + wd b 0) % 18446744073709551616 + 18446744073709551616 * ((wd a 1 + wd b 1 + c1) % 18446744073709551616 + 18446744073709551616 * ((wd a 2 + wd b 2 + c2) % 18446744073709551616 + 18446744073709551616 * ((wd a 3 + wd b 3 + c3) % 18446744073709551616))) < B := by rw [hB]; omega
  rw [Int.add_mul_ediv_right _ _ (by rw [hB]; decide), Int.ediv_eq_zero_of_lt q.1 q.2]
  omega
theorem bor_mod (x y c : Int) (h1 : 0 ≤ x) (h2 : x < 18446744073709551616) (h3 : 0 ≤ y) (h4 : y < 18446744073709551616) (h5 : 0 ≤ c) (h6 : c ≤ 1) :
    (x - y - c) % 18446744073709551616 = x - y - c + 18446744073709551616 * bor x (y + c) ∧ 0 ≤ bor x (y + c) ∧ bor x (y + c) ≤ 1 := by
  rw [bor_def]; split <;> omega
theorem sub_core (a b B x0 x1 x2 x3 y0 y1 y2 y3 r0 r1 r2 r3 c1 c2 c3 c4 : Int) (hB : B = 18446744073709551616 * 18446744073709551616 * 18446744073709551616 * 18446744073709551616)
    (ea : a = x0 + 18446744073709551616 * (x1 + 18446744073709551616 * (x2 + 18446744073709551616 * x3))) (eb : b = y0 + 18446744073709551616 * (y1 + 18446744073709551616 * (y2 + 18446744073709551616 * y3)))
    (d1 : r0 = x0 - y0 + 18446744073709551616 * c1) (d2 : r1 = x1 - y1 - c1 + 18446744073709551616 * c2) (d3 : r2 = x2 - y2 - c2 + 18446744073709551616 * c3) (d4 : r3 = x3 - y3 - c3 + 18446744073709551616 * c4)
    (l0 : 0 ≤ r0 ∧ r0 < 18446744073709551616) (l1 : 0 ≤ r1 ∧ r1 < 18446744073709551616) (l2 : 0 ≤ r2 ∧ r2 < 18446744073709551616) (l3 : 0 ≤ r3 ∧ r3 < 18446744073709551616) (hc : c4 = 0 ∨ c4 = 1) :
    a + B - b = r0 + 18446744073709551616 * (r1 + 18446744073709551616 * (r2 + 18446744073709551616 * r3)) + (1 - c4) * B ∧ c4 = bor a b := by
  have e : a - b = r0 + 18446744073709551616 * (r1 + 18446744073709551616 * (r2 + 18446744073709551616 * r3)) - c4 * B := by
    rcases hc with rfl | rfl <;> omega
  have q : 0 ≤ r0 + 18446744073709551616 * (r1 + 18446744073709551616 * (r2 + 18446744073709551616 * r3)) ∧ r0 + 18446744073709551616 * (r1 + 18446744073709551616 * (r2 + 18446744073709551616 * r3)) < B := by omega
  clear ea eb d1 d2 d3 d4 l0 l1 l2 l3
  generalize r0 + 18446744073709551616 * (r1 + 18446744073709551616 * (r2 + 18446744073709551616 * r3)) = r at *
  rw [bor_def]
  rcases hc with rfl | rfl
  · refine ⟨by omega, ?_⟩; rw [if_neg (by omega)]
  · refine ⟨by omega, ?_⟩; rw [if_pos (by omega)]
theorem nl_sub (a b : Nat) (ha : a < B) (hb : b < B) (c1 c2 c3 c4 : Int) (h1 : c1 = bor (wd a 0) (wd b 0)) (h2 : c2 = bor (wd a 1) (wd b 1 + c1)) (h3 : c3 = bor (wd a 2) (wd b 2 + c2)) (h4 : c4 = bor (wd a 3) (wd b 3 + c3)) :
    [Value.int .u64 ((wd a 0 - wd b 0) % 18446744073709551616), .int .u64 ((wd a 1 - wd b 1 - c1) % 18446744073709551616), .int .u64 ((wd a 2 - wd b 2 - c2) % 18446744073709551616), .int .u64 ((wd a 3 - wd b 3 - c3) % 18446744073709551616)] = nl (a + B - b) ∧ c4 = bor a b := by
  have hB : (B : Int) = 18446744073709551616 * 18446744073709551616 * 18446744073709551616 * 18446744073709551616 := by rw [B_eq]; rfl
  have d1 := bor_mod (wd a 0) (wd b 0) 0 (wd_lo _ _) (wd_hi _ _) (wd_lo _ _) (wd_hi _ _) (by decide) (by decide)
  simp only [Int.sub_zero, Int.add_zero] at d1
  rw [← h1] at d1
  have d2 := bor_mod (wd a 1) (wd b 1) c1 (wd_lo _ _) (wd_hi _ _) (wd_lo _ _) (wd_hi _ _) d1.2.1 d1.2.2
  rw [← h2] at d2
  have d3 := bor_mod (wd a 2) (wd b 2) c2 (wd_lo _ _) (wd_hi _ _) (wd_lo _ _) (wd_hi _ _) d2.2.1 d2.2.2
  rw [← h3] at d3
  have d4 := bor_mod (wd a 3) (wd b 3) c3 (wd_lo _ _) (wd_hi _ _) (wd_lo _ _) (wd_hi _ _) d3.2.1 d3.2.2
  rw [← h4] at d4
  have m : ∀ x : Int, 0 ≤ x % 18446744073709551616 ∧ x % 18446744073709551616 < 18446744073709551616 := fun x => by omega
  obtain ⟨k1, k2⟩ := sub_core a b B _ _ _ _ _ _ _ _ _ _ _ _ c1 c2 c3 c4 hB (four a ha) (four b hb) d1.1 d2.1 d3.1 d4.1 (m _) (m _) (m _) (m _) (by have := d4.2; omega)
  refine ⟨nl_eq _ _ _ _ _ (m _) (m _) (m _) (m _) (1 - c4) ?_, k2⟩
  rw [← k1]
  omega
noncomputable def bw : Int → Int → Int → Int := opq fun x y c => bor x (y + c)
theorem bw_def (x y c : Int) : bw x y c = bor x (y + c) := by unfold bw; rw [xCb]
theorem bw_lo (x y c : Int) : 0 ≤ bw x y c := by rw [bw_def]; exact bor_lo _ _
theorem bw_hi (x y c : Int) : bw x y c ≤ 1 := by rw [bw_def]; exact bor_hi _ _
theorem sub64' (x y b : Int) (hx : 0 ≤ x) (hy : 0 ≤ y) (hy' : y < 18446744073709551616) (hb0 : 0 ≤ b) (hb : b ≤ 1) (w : World) : (callFunc 83 #[.int .u64 x, .int .u64 y, .int .u64 b]).run Try.prog w =
    .ok (.value (.tuple #[.int .u64 (df x y b), .int .u64 (bw x y b)])) w := by rw [df_def, bw_def]; exact sub64 x y b hx hy hy' hb0 hb w
end Go.Proofs.Ythbcgcncoggagaa
namespace Go.Proofs.Ythbcgcncoggagaa
open Go.RowKit
set_option maxRecDepth 100000 in
set_option maxHeartbeats 1000000 in
theorem add_any (a b : Nat) (ha : a < B) (hb : b < B) (w : World) : Calls Try.prog 141 #[num a, num b] w fun e w' =>
    e = .returned (.tuple #[num (a + b), .int .u64 (((a + b) / B : Nat) : Int)]) ∧ Below w.heap.size w w' := by
  have a0 := wd_lo a 0; have a1 := wd_lo a 1; have a2 := wd_lo a 2; have a3 := wd_lo a 3
  have b0 := wd_lo b 0; have b1 := wd_lo b 1; have b2 := wd_lo b 2; have b3 := wd_lo b 3
  have k1 := ca_lo (wd a 0) (wd b 0) 0 a0 b0 (by decide)
  have j1 := ca_hi (wd a 0) (wd b 0) 0 (wd_hi _ _) (wd_hi _ _) (by decide)
  have k2 := ca_lo (wd a 1) (wd b 1) _ a1 b1 k1
  have j2 := ca_hi (wd a 1) (wd b 1) _ (wd_hi _ _) (wd_hi _ _) j1
  have k3 := ca_lo (wd a 2) (wd b 2) _ a2 b2 k2
  have j3 := ca_hi (wd a 2) (wd b 2) _ (wd_hi _ _) (wd_hi _ _) j2
  have hR := Rep.init w
  go_enter Try.func141, Try.ntmps141
  go_wp2_with (first | (refine' xAe hR rfl rfl rfl ?_; clear hR; intro blk w hR) | (refine' xAb hR rfl rfl inferInstance ?_; clear hR; intro blk w hR) | (refine' xAc hR rfl rfl rfl inferInstance ?hm ?hn ?_; (case hm => first | with_reducible assumption | repeat (first | exact .head _ | apply mT)); (case hn => first | rfl | simp)) | (refine' xAd hR rfl rfl rfl inferInstance ?hm ?hv ?hn ?_; (case hm => first | with_reducible assumption | repeat (first | exact .head _ | apply mT)); (case hv => first | with_reducible assumption | (simp only [kC, kD, kE, kF]; try rfl)); (case hn => first | rfl | simp)) | (refine' xBg hR rfl rfl rfl inferInstance ?hm ?hv ?_; (case hm => first | with_reducible assumption | repeat (first | exact .head _ | apply mT)); (case hv => first | rfl | with_reducible assumption)) | (refine' xAa hR rfl rfl rfl inferInstance rfl ?hs ?zone ?zvn ?hn ?_; (case hs => repeat (first | exact xAf.head | apply xAf.tail)); (case zone => first | rfl | with_reducible assumption); (case zvn => first | rfl | simp); (case hn => first | rfl | simp); clear hR; intro w hR) | (refine' xBe hR rfl rfl rfl inferInstance rfl rfl ?hs ?hn ?hl ?_; (case hs => repeat (first | exact xAf.head | apply xAf.tail)); (case hn => first | exact oD rfl | (show _ < 4; with_reducible assumption) | (simp; try omega)); (case hl => first | with_reducible assumption | (simp only [nl, kA, kB]; first | done | rfl) | rfl); clear hR; intro w hR) | fail)
  refine wp_loop_rounds 5 ?_
  iterate 4
    rw [rounds_succ]
    go_wp2_with (first | (refine' xAe hR rfl rfl rfl ?_; clear hR; intro blk w hR) | (refine' xAb hR rfl rfl inferInstance ?_; clear hR; intro blk w hR) | (refine' xAc hR rfl rfl rfl inferInstance ?hm ?hn ?_; (case hm => first | with_reducible assumption | repeat (first | exact .head _ | apply mT)); (case hn => first | rfl | simp)) | (refine' xAd hR rfl rfl rfl inferInstance ?hm ?hv ?hn ?_; (case hm => first | with_reducible assumption | repeat (first | exact .head _ | apply mT)); (case hv => first | with_reducible assumption | (simp only [kC, kD, kE, kF]; try rfl)); (case hn => first | rfl | simp)) | (refine' xBg hR rfl rfl rfl inferInstance ?hm ?hv ?_; (case hm => first | with_reducible assumption | repeat (first | exact .head _ | apply mT)); (case hv => first | rfl | with_reducible assumption)) | (refine' xAa hR rfl rfl rfl inferInstance rfl ?hs ?zone ?zvn ?hn ?_; (case hs => repeat (first | exact xAf.head | apply xAf.tail)); (case zone => first | rfl | with_reducible assumption); (case zvn => first | rfl | simp); (case hn => first | rfl | simp); clear hR; intro w hR) | (refine' xBe hR rfl rfl rfl inferInstance rfl rfl ?hs ?hn ?hl ?_; (case hs => repeat (first | exact xAf.head | apply xAf.tail)); (case hn => first | exact oD rfl | (show _ < 4; with_reducible assumption) | (simp; try omega)); (case hl => first | with_reducible assumption | (simp only [nl, kA, kB]; first | done | rfl) | rfl); clear hR; intro w hR) | fail)
    refine xAn hR [0, 0, 0, 0, 0, 0, 0, 0, 0, 0, 0, 1, 0, 2, 2] [] mixed (by kernel_rfl) rfl rfl (fun K hK => ?_)
    clear hR
    repeat ((first | (refine xBq ?_) | (refine' xAx (by decide) rfl (.inl rfl) rfl ?ha ?_) | (refine' xAx (by decide) rfl (.inr rfl) rfl ?ha ?_) | (refine' xAt rfl rfl rfl inferInstance ?hm ?hn ?ha ?_; (case hm => first | with_reducible assumption | repeat (first | exact .head _ | apply mT)); (case hn => first | rfl | simp)) | (refine' xAr rfl rfl rfl inferInstance ?hm ?hv ?hn ?ha ?_; (case hm => first | with_reducible assumption | repeat (first | exact .head _ | apply mT)); (case hv => first | with_reducible assumption | (simp only [kC, kD, kE, kF]; try rfl)); (case hn => first | rfl | simp)) | (refine' xAk rfl rfl rfl inferInstance ?hm ?hv ?ha ?_; (case hm => first | with_reducible assumption | repeat (first | exact .head _ | apply mT)); (case hv => first | rfl | with_reducible assumption)) | (refine' xAq rfl rfl rfl inferInstance ?hm ?hv ?hn ?ha ?_; (case hm => first | with_reducible assumption | repeat (first | exact .head _ | apply mT)); (case hv => first | with_reducible assumption | (simp only [kC, kD, kE, kF]; try rfl)); (case hn => first | rfl | simp)) | (refine' xAm rfl rfl rfl inferInstance ?hm ?hv ?ha ?_; (case hm => first | with_reducible assumption | repeat (first | exact .head _ | apply mT)); (case hv => first | rfl | with_reducible assumption)) | ((first | refine' xAi (by decide) rfl rfl rfl rfl (fun w => ?hq) ?ha ?_ | refine' xBk (by decide) rfl rfl rfl rfl (fun w => ?hq) ?ha ?_ | refine' xAw (by decide) rfl rfl rfl (fun w => ?hq) ?ha ?_ | refine' xAh (by decide) rfl rfl rfl (fun w => ?hq) ?ha ?_ | refine' xAu (by decide) rfl rfl rfl (fun w => ?hq) ?ha ?_ | refine' xBl (by decide) rfl rfl rfl rfl (fun w => ?hq) ?ha ?_ | refine' xBj (by decide) rfl rfl rfl rfl rfl rfl (fun w => ?hq) ?ha ?_ | refine' xBm (by decide) rfl rfl (fun w => ?hq) ?ha ?_ | refine' xAv (by decide) rfl rfl rfl (fun w => ?hq) ?ha ?_ | refine' xBi (by decide) rfl rfl rfl (fun w => ?hq) ?ha ?_); (case hq => go_simp; try rfl)) | (refine' xAl (by decide) rfl rfl rfl ?ha ?_) | (refine' xBp (by decide) rfl rfl rfl rfl ?ha ?_) | (refine' xBr (by decide) rfl ?ha ?_) | (refine' hd_extern (by decide) rfl rfl rfl (fun w => ?hq) ?ha ?_; (case hq => first | exact add64' _ _ _ (by assumption) (by assumption) (by first | assumption | decide) (by first | assumption | decide) w | (rw [add64' _ _ _ (by assumption) (by assumption) (by first | assumption | decide) (by first | assumption | decide) w])))); try (case ha => simp only [kP, kQ, kA, kB]; try rfl))
    refine xCa (hK _ _ ?_)
    clear hK K
    refine xCg (fun Q hQ => ?_)
    try simp only [List.nil_append, List.cons_append]
    repeat ((first | refine' xBc rfl (.inl rfl) rfl ?hk ?ha ?_ | refine' xBc rfl (.inr rfl) rfl ?hk ?ha ?_ | (refine' xAz rfl rfl rfl inferInstance rfl ?hs rfl rfl ?hn ?hk ?ha ?_; (case hs => repeat (first | exact xAf.head | apply xAf.tail)); (case hn => first | rfl | simp)) | (refine' xAo rfl rfl rfl inferInstance rfl rfl ?hs ?hn ?hl ?hk ?ha ?_; (case hs => repeat (first | exact xAf.head | apply xAf.tail)); (case hn => first | exact oD rfl | (show _ < 4; with_reducible assumption) | (simp; try omega)); (case hl => first | with_reducible assumption | (simp only [nl, kA, kB]; first | done | rfl) | rfl)) | (refine' xAy rfl rfl rfl inferInstance rfl rfl ?hvn ?hs ?hn ?hl ?hk ?ha ?_; (case hvn => first | rfl | simp); (case hs => repeat (first | exact xAf.head | apply xAf.tail)); (case hn => first | exact oD rfl | (show _ < 4; with_reducible assumption) | (simp; try omega)); (case hl => first | with_reducible assumption | (simp only [nl, kA, kB]; first | done | rfl) | rfl)) | (refine' xBv rfl (fun w => ?hq) ?hk ?ha ?_; (case hq => go_simp; try rfl))); (case hk => intro p hp; first | exact absurd hp List.not_mem_nil | (obtain rfl := List.mem_singleton.1 hp; repeat (first | exact List.Mem.head _ | apply mT))); (case ha => simp only [kP, kQ, kA, kB]; try rfl))
    refine xCh (fun w hR => hQ _ _ ?_)
    clear hQ Q
    go_wp2_with (first | (refine' xAe hR rfl rfl rfl ?_; clear hR; intro blk w hR) | (refine' xAb hR rfl rfl inferInstance ?_; clear hR; intro blk w hR) | (refine' xAc hR rfl rfl rfl inferInstance ?hm ?hn ?_; (case hm => first | with_reducible assumption | repeat (first | exact .head _ | apply mT)); (case hn => first | rfl | simp)) | (refine' xAd hR rfl rfl rfl inferInstance ?hm ?hv ?hn ?_; (case hm => first | with_reducible assumption | repeat (first | exact .head _ | apply mT)); (case hv => first | with_reducible assumption | (simp only [kC, kD, kE, kF]; try rfl)); (case hn => first | rfl | simp)) | (refine' xBg hR rfl rfl rfl inferInstance ?hm ?hv ?_; (case hm => first | with_reducible assumption | repeat (first | exact .head _ | apply mT)); (case hv => first | rfl | with_reducible assumption)) | (refine' xAa hR rfl rfl rfl inferInstance rfl ?hs ?zone ?zvn ?hn ?_; (case hs => repeat (first | exact xAf.head | apply xAf.tail)); (case zone => first | rfl | with_reducible assumption); (case zvn => first | rfl | simp); (case hn => first | rfl | simp); clear hR; intro w hR) | (refine' xBe hR rfl rfl rfl inferInstance rfl rfl ?hs ?hn ?hl ?_; (case hs => repeat (first | exact xAf.head | apply xAf.tail)); (case hn => first | exact oD rfl | (show _ < 4; with_reducible assumption) | (simp; try omega)); (case hl => first | with_reducible assumption | (simp only [nl, kA, kB]; first | done | rfl) | rfl); clear hR; intro w hR) | fail)
  rw [rounds_succ]
  go_wp2_with (first | (refine' xAe hR rfl rfl rfl ?_; clear hR; intro blk w hR) | (refine' xAb hR rfl rfl inferInstance ?_; clear hR; intro blk w hR) | (refine' xAc hR rfl rfl rfl inferInstance ?hm ?hn ?_; (case hm => first | with_reducible assumption | repeat (first | exact .head _ | apply mT)); (case hn => first | rfl | simp)) | (refine' xAd hR rfl rfl rfl inferInstance ?hm ?hv ?hn ?_; (case hm => first | with_reducible assumption | repeat (first | exact .head _ | apply mT)); (case hv => first | with_reducible assumption | (simp only [kC, kD, kE, kF]; try rfl)); (case hn => first | rfl | simp)) | (refine' xBg hR rfl rfl rfl inferInstance ?hm ?hv ?_; (case hm => first | with_reducible assumption | repeat (first | exact .head _ | apply mT)); (case hv => first | rfl | with_reducible assumption)) | (refine' xAa hR rfl rfl rfl inferInstance rfl ?hs ?zone ?zvn ?hn ?_; (case hs => repeat (first | exact xAf.head | apply xAf.tail)); (case zone => first | rfl | with_reducible assumption); (case zvn => first | rfl | simp); (case hn => first | rfl | simp); clear hR; intro w hR) | (refine' xBe hR rfl rfl rfl inferInstance rfl rfl ?hs ?hn ?hl ?_; (case hs => repeat (first | exact xAf.head | apply xAf.tail)); (case hn => first | exact oD rfl | (show _ < 4; with_reducible assumption) | (simp; try omega)); (case hl => first | with_reducible assumption | (simp only [nl, kA, kB]; first | done | rfl) | rfl); clear hR; intro w hR) | fail)
  refine' bodyPost_ret (xBd Try.results141 rfl (hR.loadAll (P := Try.prog) (ty := 24) ?hm ?hn)) rfl ⟨?_, hR.below⟩
  case hm => exact List.Mem.head _
  case hn => rfl
  obtain ⟨e1, e2⟩ := nl_add a b ha hb _ _ _ _ rfl rfl rfl rfl
  show Ending.returned (.tuple #[.agg (List.toArray [_, _, _, _]), .int .u64 _]) = _
  simp only [sm_def, ca_def, Int.add_zero]
  rw [e1, e2]
end Go.Proofs.Ythbcgcncoggagaa
namespace Go.Proofs.Ythbcgcncoggagaa
open Go.RowKit
set_option maxRecDepth 100000 in
set_option maxHeartbeats 1000000 in
theorem sub_any (a b : Nat) (ha : a < B) (hb : b < B) (w : World) : Calls Try.prog 36 #[num a, num b] w fun e w' =>
    e = .returned (.tuple #[num (a + B - b), .int .u64 (bor a b)]) ∧ Below w.heap.size w w' := by
  have a0 := wd_lo a 0; have a1 := wd_lo a 1; have a2 := wd_lo a 2; have a3 := wd_lo a 3
  have b0 := wd_lo b 0; have b1 := wd_lo b 1; have b2 := wd_lo b 2; have b3 := wd_lo b 3
  have v0 := wd_hi b 0; have v1 := wd_hi b 1; have v2 := wd_hi b 2; have v3 := wd_hi b 3
  have k1 := bw_lo (wd a 0) (wd b 0) 0
  have j1 := bw_hi (wd a 0) (wd b 0) 0
  have k2 := bw_lo (wd a 1) (wd b 1) (bw (wd a 0) (wd b 0) 0)
  have j2 := bw_hi (wd a 1) (wd b 1) (bw (wd a 0) (wd b 0) 0)
  have k3 := bw_lo (wd a 2) (wd b 2) (bw (wd a 1) (wd b 1) (bw (wd a 0) (wd b 0) 0))
  have j3 := bw_hi (wd a 2) (wd b 2) (bw (wd a 1) (wd b 1) (bw (wd a 0) (wd b 0) 0))
  have hR := Rep.init w
  go_enter Try.func36, Try.ntmps36
  go_wp2_with (first | (refine' xAe hR rfl rfl rfl ?_; clear hR; intro blk w hR) | (refine' xAb hR rfl rfl inferInstance ?_; clear hR; intro blk w hR) | (refine' xAc hR rfl rfl rfl inferInstance ?hm ?hn ?_; (case hm => first | with_reducible assumption | repeat (first | exact .head _ | apply mT)); (case hn => first | rfl | simp)) | (refine' xAd hR rfl rfl rfl inferInstance ?hm ?hv ?hn ?_; (case hm => first | with_reducible assumption | repeat (first | exact .head _ | apply mT)); (case hv => first | with_reducible assumption | (simp only [kC, kD, kE, kF]; try rfl)); (case hn => first | rfl | simp)) | (refine' xBg hR rfl rfl rfl inferInstance ?hm ?hv ?_; (case hm => first | with_reducible assumption | repeat (first | exact .head _ | apply mT)); (case hv => first | rfl | with_reducible assumption)) | (refine' xAa hR rfl rfl rfl inferInstance rfl ?hs ?zone ?zvn ?hn ?_; (case hs => repeat (first | exact xAf.head | apply xAf.tail)); (case zone => first | rfl | with_reducible assumption); (case zvn => first | rfl | simp); (case hn => first | rfl | simp); clear hR; intro w hR) | (refine' xBe hR rfl rfl rfl inferInstance rfl rfl ?hs ?hn ?hl ?_; (case hs => repeat (first | exact xAf.head | apply xAf.tail)); (case hn => first | exact oD rfl | (show _ < 4; with_reducible assumption) | (simp; try omega)); (case hl => first | with_reducible assumption | (simp only [nl, kA, kB]; first | done | rfl) | rfl); clear hR; intro w hR) | fail)
  refine wp_loop_rounds 5 ?_
  iterate 4
    rw [rounds_succ]
    go_wp2_with (first | (refine' xAe hR rfl rfl rfl ?_; clear hR; intro blk w hR) | (refine' xAb hR rfl rfl inferInstance ?_; clear hR; intro blk w hR) | (refine' xAc hR rfl rfl rfl inferInstance ?hm ?hn ?_; (case hm => first | with_reducible assumption | repeat (first | exact .head _ | apply mT)); (case hn => first | rfl | simp)) | (refine' xAd hR rfl rfl rfl inferInstance ?hm ?hv ?hn ?_; (case hm => first | with_reducible assumption | repeat (first | exact .head _ | apply mT)); (case hv => first | with_reducible assumption | (simp only [kC, kD, kE, kF]; try rfl)); (case hn => first | rfl | simp)) | (refine' xBg hR rfl rfl rfl inferInstance ?hm ?hv ?_; (case hm => first | with_reducible assumption | repeat (first | exact .head _ | apply mT)); (case hv => first | rfl | with_reducible assumption)) | (refine' xAa hR rfl rfl rfl inferInstance rfl ?hs ?zone ?zvn ?hn ?_; (case hs => repeat (first | exact xAf.head | apply xAf.tail)); (case zone => first | rfl | with_reducible assumption); (case zvn => first | rfl | simp); (case hn => first | rfl | simp); clear hR; intro w hR) | (refine' xBe hR rfl rfl rfl inferInstance rfl rfl ?hs ?hn ?hl ?_; (case hs => repeat (first | exact xAf.head | apply xAf.tail)); (case hn => first | exact oD rfl | (show _ < 4; with_reducible assumption) | (simp; try omega)); (case hl => first | with_reducible assumption | (simp only [nl, kA, kB]; first | done | rfl) | rfl); clear hR; intro w hR) | fail)
    refine xAn hR [0, 0, 0, 0, 0, 0, 0, 0, 0, 0, 0, 1, 0, 2, 2] [] mixed (by kernel_rfl) rfl rfl (fun K hK => ?_)
    clear hR
    repeat ((first | (refine xBq ?_) | (refine' xAx (by decide) rfl (.inl rfl) rfl ?ha ?_) | (refine' xAx (by decide) rfl (.inr rfl) rfl ?ha ?_) | (refine' xAt rfl rfl rfl inferInstance ?hm ?hn ?ha ?_; (case hm => first | with_reducible assumption | repeat (first | exact .head _ | apply mT)); (case hn => first | rfl | simp)) | (refine' xAr rfl rfl rfl inferInstance ?hm ?hv ?hn ?ha ?_; (case hm => first | with_reducible assumption | repeat (first | exact .head _ | apply mT)); (case hv => first | with_reducible assumption | (simp only [kC, kD, kE, kF]; try rfl)); (case hn => first | rfl | simp)) | (refine' xAk rfl rfl rfl inferInstance ?hm ?hv ?ha ?_; (case hm => first | with_reducible assumption | repeat (first | exact .head _ | apply mT)); (case hv => first | rfl | with_reducible assumption)) | (refine' xAq rfl rfl rfl inferInstance ?hm ?hv ?hn ?ha ?_; (case hm => first | with_reducible assumption | repeat (first | exact .head _ | apply mT)); (case hv => first | with_reducible assumption | (simp only [kC, kD, kE, kF]; try rfl)); (case hn => first | rfl | simp)) | (refine' xAm rfl rfl rfl inferInstance ?hm ?hv ?ha ?_; (case hm => first | with_reducible assumption | repeat (first | exact .head _ | apply mT)); (case hv => first | rfl | with_reducible assumption)) | ((first | refine' xAi (by decide) rfl rfl rfl rfl (fun w => ?hq) ?ha ?_ | refine' xBk (by decide) rfl rfl rfl rfl (fun w => ?hq) ?ha ?_ | refine' xAw (by decide) rfl rfl rfl (fun w => ?hq) ?ha ?_ | refine' xAh (by decide) rfl rfl rfl (fun w => ?hq) ?ha ?_ | refine' xAu (by decide) rfl rfl rfl (fun w => ?hq) ?ha ?_ | refine' xBl (by decide) rfl rfl rfl rfl (fun w => ?hq) ?ha ?_ | refine' xBj (by decide) rfl rfl rfl rfl rfl rfl (fun w => ?hq) ?ha ?_ | refine' xBm (by decide) rfl rfl (fun w => ?hq) ?ha ?_ | refine' xAv (by decide) rfl rfl rfl (fun w => ?hq) ?ha ?_ | refine' xBi (by decide) rfl rfl rfl (fun w => ?hq) ?ha ?_); (case hq => go_simp; try rfl)) | (refine' xAl (by decide) rfl rfl rfl ?ha ?_) | (refine' xBp (by decide) rfl rfl rfl rfl ?ha ?_) | (refine' xBr (by decide) rfl ?ha ?_) | (refine' hd_extern (by decide) rfl rfl rfl (fun w => ?hq) ?ha ?_; (case hq => first | exact sub64' _ _ _ (by assumption) (by assumption) (by assumption) (by first | assumption | decide) (by first | assumption | decide) w | (rw [sub64' _ _ _ (by assumption) (by assumption) (by assumption) (by first | assumption | decide) (by first | assumption | decide) w])))); try (case ha => simp only [kP, kQ, kA, kB]; try rfl))
    refine xCa (hK _ _ ?_)
    clear hK K
    refine xCg (fun Q hQ => ?_)
    try simp only [List.nil_append, List.cons_append]
    repeat ((first | refine' xBc rfl (.inl rfl) rfl ?hk ?ha ?_ | refine' xBc rfl (.inr rfl) rfl ?hk ?ha ?_ | (refine' xAz rfl rfl rfl inferInstance rfl ?hs rfl rfl ?hn ?hk ?ha ?_; (case hs => repeat (first | exact xAf.head | apply xAf.tail)); (case hn => first | rfl | simp)) | (refine' xAo rfl rfl rfl inferInstance rfl rfl ?hs ?hn ?hl ?hk ?ha ?_; (case hs => repeat (first | exact xAf.head | apply xAf.tail)); (case hn => first | exact oD rfl | (show _ < 4; with_reducible assumption) | (simp; try omega)); (case hl => first | with_reducible assumption | (simp only [nl, kA, kB]; first | done | rfl) | rfl)) | (refine' xAy rfl rfl rfl inferInstance rfl rfl ?hvn ?hs ?hn ?hl ?hk ?ha ?_; (case hvn => first | rfl | simp); (case hs => repeat (first | exact xAf.head | apply xAf.tail)); (case hn => first | exact oD rfl | (show _ < 4; with_reducible assumption) | (simp; try omega)); (case hl => first | with_reducible assumption | (simp only [nl, kA, kB]; first | done | rfl) | rfl)) | (refine' xBv rfl (fun w => ?hq) ?hk ?ha ?_; (case hq => go_simp; try rfl))); (case hk => intro p hp; first | exact absurd hp List.not_mem_nil | (obtain rfl := List.mem_singleton.1 hp; repeat (first | exact List.Mem.head _ | apply mT))); (case ha => simp only [kP, kQ, kA, kB]; try rfl))
    refine xCh (fun w hR => hQ _ _ ?_)
    clear hQ Q
    go_wp2_with (first | (refine' xAe hR rfl rfl rfl ?_; clear hR; intro blk w hR) | (refine' xAb hR rfl rfl inferInstance ?_; clear hR; intro blk w hR) | (refine' xAc hR rfl rfl rfl inferInstance ?hm ?hn ?_; (case hm => first | with_reducible assumption | repeat (first | exact .head _ | apply mT)); (case hn => first | rfl | simp)) | (refine' xAd hR rfl rfl rfl inferInstance ?hm ?hv ?hn ?_; (case hm => first | with_reducible assumption | repeat (first | exact .head _ | apply mT)); (case hv => first | with_reducible assumption | (simp only [kC, kD, kE, kF]; try rfl)); (case hn => first | rfl | simp)) | (refine' xBg hR rfl rfl rfl inferInstance ?hm ?hv ?_; (case hm => first | with_reducible assumption | repeat (first | exact .head _ | apply mT)); (case hv => first | rfl | with_reducible assumption)) | (refine' xAa hR rfl rfl rfl inferInstance rfl ?hs ?zone ?zvn ?hn ?_; (case hs => repeat (first | exact xAf.head | apply xAf.tail)); (case zone => first | rfl | with_reducible assumption); (case zvn => first | rfl | simp); (case hn => first | rfl | simp); clear hR; intro w hR) | (refine' xBe hR rfl rfl rfl inferInstance rfl rfl ?hs ?hn ?hl ?_; (case hs => repeat (first | exact xAf.head | apply xAf.tail)); (case hn => first | exact oD rfl | (show _ < 4; with_reducible assumption) | (simp; try omega)); (case hl => first | with_reducible assumption | (simp only [nl, kA, kB]; first | done | rfl) | rfl); clear hR; intro w hR) | fail)
  rw [rounds_succ]
  go_wp2_with (first | (refine' xAe hR rfl rfl rfl ?_; clear hR; intro blk w hR) | (refine' xAb hR rfl rfl inferInstance ?_; clear hR; intro blk w hR) | (refine' xAc hR rfl rfl rfl inferInstance ?hm ?hn ?_; (case hm => first | with_reducible assumption | repeat (first | exact .head _ | apply mT)); (case hn => first | rfl | simp)) | (refine' xAd hR rfl rfl rfl inferInstance ?hm ?hv ?hn ?_; (case hm => first | with_reducible assumption | repeat (first | exact .head _ | apply mT)); (case hv => first | with_reducible assumption | (simp only [kC, kD, kE, kF]; try rfl)); (case hn => first | rfl | simp)) | (refine' xBg hR rfl rfl rfl inferInstance ?hm ?hv ?_; (case hm => first | with_reducible assumption | repeat (first | exact .head _ | apply mT)); (case hv => first | rfl | with_reducible assumption)) | (refine' xAa hR rfl rfl rfl inferInstance rfl ?hs ?zone ?zvn ?hn ?_; (case hs => repeat (first | exact xAf.head | apply xAf.tail)); (case zone => first | rfl | with_reducible assumption); (case zvn => first | rfl | simp); (case hn => first | rfl | simp); clear hR; intro w hR) | (refine' xBe hR rfl rfl rfl inferInstance rfl rfl ?hs ?hn ?hl ?_; (case hs => repeat (first | exact xAf.head | apply xAf.tail)); (case hn => first | exact oD rfl | (show _ < 4; with_reducible assumption) | (simp; try omega)); (case hl => first | with_reducible assumption | (simp only [nl, kA, kB]; first | done | rfl) | rfl); clear hR; intro w hR) | fail)
  refine' bodyPost_ret (xBd Try.results36 rfl (hR.loadAll (P := Try.prog) (ty := 24) ?hm ?hn)) rfl ⟨?_, hR.below⟩
  case hm => exact List.Mem.head _
  case hn => rfl
  obtain ⟨e1, e2⟩ := nl_sub a b ha hb _ _ _ _ rfl rfl rfl rfl
  show Ending.returned (.tuple #[.agg (List.toArray [_, _, _, _]), .int .u64 _]) = _
  simp only [df_def, bw_def, Int.add_zero, Int.sub_zero]
  rw [e1, e2]
end Go.Proofs.Ythbcgcncoggagaa
namespace Go.Proofs.Ythbcgcncoggagaa
open Go.RowKit
theorem nl_small (n : Nat) (h : n < 18446744073709551616) : nl n = [.int .u64 (n : Int), .int .u64 0, .int .u64 0, .int .u64 0] := by
  have e := nl_ofW n 0 0 0 h (by decide) (by decide) (by decide)
  have e2 : ofW n 0 0 0 = n := by unfold ofW; omega
  rw [e2] at e
  exact e
theorem lt_B {n : Nat} (h : n < 18446744073709551616) : n < B := by rw [B_eq]; omega
noncomputable def cmpN : Nat → Nat → Int := opq fun a b => if a = b then 0 else if a < b then -1 else 1
theorem cmpN_def (a b : Nat) : cmpN a b = if a = b then 0 else if a < b then -1 else 1 := by unfold cmpN; rw [xCb]
theorem cmpN_le (a b : Nat) : cmpN a b ≤ 0 ↔ a ≤ b := by rw [cmpN_def]; split <;> (try split) <;> omega
theorem cmpN_lt (a b : Nat) : cmpN a b < 0 ↔ a < b := by rw [cmpN_def]; split <;> (try split) <;> omega
theorem cmpN_ge (a b : Nat) : 0 ≤ cmpN a b ↔ b ≤ a := by rw [cmpN_def]; split <;> (try split) <;> omega
theorem cmpN_gt (a b : Nat) : 0 < cmpN a b ↔ b < a := by rw [cmpN_def]; split <;> (try split) <;> omega
theorem of_any (n : Nat) (hn : n < 18446744073709551616) (w : World) : Calls Try.prog 57 #[.int .u64 (n : Int)] w fun e w' =>
    e = .returned (num n) ∧ Below w.heap.size w w' := by
  have hR := Rep.init w
  go_enter Try.func57, Try.ntmps57
  go_wp2_with (first | (refine' xAe hR rfl rfl rfl ?_; clear hR; intro blk w hR) | (refine' xAb hR rfl rfl inferInstance ?_; clear hR; intro blk w hR) | (refine' xAc hR rfl rfl rfl inferInstance ?hm ?hn ?_; (case hm => first | with_reducible assumption | repeat (first | exact .head _ | apply mT)); (case hn => first | rfl | simp)) | (refine' xAd hR rfl rfl rfl inferInstance ?hm ?hv ?hn ?_; (case hm => first | with_reducible assumption | repeat (first | exact .head _ | apply mT)); (case hv => first | with_reducible assumption | (simp only [kC, kD, kE, kF]; try rfl)); (case hn => first | rfl | simp)) | (refine' xBg hR rfl rfl rfl inferInstance ?hm ?hv ?_; (case hm => first | with_reducible assumption | repeat (first | exact .head _ | apply mT)); (case hv => first | rfl | with_reducible assumption)) | (refine' xAa hR rfl rfl rfl inferInstance rfl ?hs ?zone ?zvn ?hn ?_; (case hs => repeat (first | exact xAf.head | apply xAf.tail)); (case zone => first | rfl | with_reducible assumption); (case zvn => first | rfl | simp); (case hn => first | rfl | simp); clear hR; intro w hR) | (refine' xBe hR rfl rfl rfl inferInstance rfl rfl ?hs ?hn ?hl ?_; (case hs => repeat (first | exact xAf.head | apply xAf.tail)); (case hn => first | exact oD rfl | (show _ < 4; with_reducible assumption) | (simp; try omega)); (case hl => first | with_reducible assumption | (simp only [nl, kA, kB]; first | done | rfl) | rfl); clear hR; intro w hR) | fail)
  (refine' bodyPost_ret (xBt Try.results57 rfl (hR.loadAll (P := Try.prog) (ty := 24) ?hm ?hn)) rfl ⟨?_, hR.below⟩; (case hm => first | with_reducible assumption | repeat (first | exact .head _ | apply mT)); (case hn => first | rfl | simp))
  show Ending.returned (.agg (List.toArray _)) = _
  unfold num
  rw [nl_small n hn]
theorem cmp_c1 {a b : Nat} (ha : a < B) (hb : b < B) (h : eqN a b = true) : (0 : Int) = cmpN a b := by
  rw [eqN_def, Nat.mod_eq_of_lt ha, Nat.mod_eq_of_lt hb, decide_eq_true_iff] at h
  rw [cmpN_def, if_pos h]
theorem cmp_c2 {a b : Nat} (ha : a < B) (hb : b < B) (h : eqN a b = false) (k : (bor a b == 1) = true) : (-1 : Int) = cmpN a b := by
  rw [eqN_def, Nat.mod_eq_of_lt ha, Nat.mod_eq_of_lt hb, decide_eq_false_iff_not] at h
  rw [cmpN_def, if_neg h]
  rw [bor_def] at k
  by_cases q : (a : Int) < b
  · rw [if_pos (by omega)]
  · rw [if_neg q] at k; cases k
theorem cmp_c3 {a b : Nat} (ha : a < B) (hb : b < B) (h : eqN a b = false) (k : (bor a b == 1) = false) : (1 : Int) = cmpN a b := by
  rw [eqN_def, Nat.mod_eq_of_lt ha, Nat.mod_eq_of_lt hb, decide_eq_false_iff_not] at h
  rw [cmpN_def, if_neg h]
  rw [bor_def] at k
  by_cases q : (a : Int) < b
  · rw [if_pos q] at k; cases k
  · rw [if_neg (by omega)]
set_option maxRecDepth 100000 in
set_option maxHeartbeats 1000000 in
theorem cmp_any (a b : Nat) (ha : a < B) (hb : b < B) (w : World) : Calls Try.prog 13 #[num a, num b] w fun e w' =>
    e = .returned (.int .i64 (cmpN a b)) ∧ Below w.heap.size w w' := by
  have hR := Rep.init w
  go_enter Try.func13, Try.ntmps13
  go_wp2_with (first | (refine' xAe hR rfl rfl rfl ?_; clear hR; intro blk w hR) | (refine' xAb hR rfl rfl inferInstance ?_; clear hR; intro blk w hR) | (refine' xAc hR rfl rfl rfl inferInstance ?hm ?hn ?_; (case hm => first | with_reducible assumption | repeat (first | exact .head _ | apply mT)); (case hn => first | rfl | simp)) | (refine' xAd hR rfl rfl rfl inferInstance ?hm ?hv ?hn ?_; (case hm => first | with_reducible assumption | repeat (first | exact .head _ | apply mT)); (case hv => first | with_reducible assumption | (simp only [kC, kD, kE, kF]; try rfl)); (case hn => first | rfl | simp)) | (refine' xBg hR rfl rfl rfl inferInstance ?hm ?hv ?_; (case hm => first | with_reducible assumption | repeat (first | exact .head _ | apply mT)); (case hv => first | rfl | with_reducible assumption)) | (refine' xAa hR rfl rfl rfl inferInstance rfl ?hs ?zone ?zvn ?hn ?_; (case hs => repeat (first | exact xAf.head | apply xAf.tail)); (case zone => first | rfl | with_reducible assumption); (case zvn => first | rfl | simp); (case hn => first | rfl | simp); clear hR; intro w hR) | (refine' xBe hR rfl rfl rfl inferInstance rfl rfl ?hs ?hn ?hl ?_; (case hs => repeat (first | exact xAf.head | apply xAf.tail)); (case hn => first | exact oD rfl | (show _ < 4; with_reducible assumption) | (simp; try omega)); (case hl => first | with_reducible assumption | (simp only [nl, kA, kB]; first | done | rfl) | rfl); clear hR; intro w hR) | (go_at_call 36; refine (sub_any a b ha hb _).mono ?_; rintro e w ⟨rfl, hb⟩; replace hR := hR.call hb; clear hb))
  all_goals go_ret
  · exact ⟨congrArg (fun x => Ending.returned (.int .i64 x)) (cmp_c1 ha hb (by assumption)), hR.below⟩
  · exact ⟨congrArg (fun x => Ending.returned (.int .i64 x)) (cmp_c2 ha hb (by assumption) (by assumption)), hR.below⟩
  · exact ⟨congrArg (fun x => Ending.returned (.int .i64 x)) (cmp_c3 ha hb (by assumption) (by assumption)), hR.below⟩
end Go.Proofs.Ythbcgcncoggagaa
