/- SHA-256 on plain numbers: words of 32 bits, the schedule, the rounds, messages and their hashes. Nothing of the program. -/
import Derived.WalkKit
import Derived.Laws.BitsLemmas
set_option linter.unusedSimpArgs false
set_option linter.unusedVariables false
namespace Go.Proofs.Ytllmpiamcghboaa
open Go.RowKit

/-! ### Words of 32 bits -/
theorem u32_xor (a b : Nat) (ha : a < 4294967296) (hb : b < 4294967296) : bits .xor .u32 (a : Int) (b : Int) = ((a ^^^ b : Nat) : Int) := by
  have h := Nat.xor_lt_two_pow (n := 32) ha hb
  have hb32 : IntKind.u32.bits = 32 := rfl
  have ha' : a % 2 ^ IntKind.u32.bits = a := Nat.mod_eq_of_lt ha
  have hb' : b % 2 ^ IntKind.u32.bits = b := Nat.mod_eq_of_lt hb
  simp only [bits, BitVec.ofInt_natCast, BitVec.toNat_xor, BitVec.toNat_ofNat, ha', hb']
  rw [IntKind.wrap_u32]
  omega
theorem u32_and (a b : Nat) (ha : a < 4294967296) (hb : b < 4294967296) : bits .and .u32 (a : Int) (b : Int) = ((a &&& b : Nat) : Int) :=
  (bits_nat .u32 32 (by decide) (fun n h0 h1 => by rw [IntKind.wrap_u32]; omega) a b ha hb).1
theorem u32_or (a b : Nat) (ha : a < 4294967296) (hb : b < 4294967296) : bits .or .u32 (a : Int) (b : Int) = ((a ||| b : Nat) : Int) :=
  (bits_nat .u32 32 (by decide) (fun n h0 h1 => by rw [IntKind.wrap_u32]; omega) a b ha hb).2
theorem xor_lt {a b : Nat} (ha : a < 4294967296) (hb : b < 4294967296) : a ^^^ b < 4294967296 := Nat.xor_lt_two_pow (n := 32) ha hb
theorem and_lt {a b : Nat} (hb : b < 4294967296) : a &&& b < 4294967296 := Nat.and_lt_two_pow (n := 32) a hb
theorem or_lt {a b : Nat} (ha : a < 4294967296) (hb : b < 4294967296) : a ||| b < 4294967296 := Nat.or_lt_two_pow (n := 32) ha hb

/-- x, its bits moved k places down, those that fall off above. -/
def rotr (x k : Nat) : Nat := x / 2 ^ k ||| x * 2 ^ (32 - k) % 4294967296
def rot2 (x a b : Nat) : Nat := rotr x a ^^^ rotr x b
def rot3 (x a b c : Nat) : Nat := rotr x a ^^^ rotr x b ^^^ rotr x c
theorem rotr_lt {x : Nat} (k : Nat) (hx : x < 4294967296) : rotr x k < 4294967296 := or_lt (Nat.lt_of_le_of_lt (Nat.div_le_self _ _) hx) (Nat.mod_lt _ (by decide))
theorem rot2_lt {x : Nat} (a b : Nat) (hx : x < 4294967296) : rot2 x a b < 4294967296 := xor_lt (rotr_lt a hx) (rotr_lt b hx)
theorem rot3_lt {x : Nat} (a b c : Nat) (hx : x < 4294967296) : rot3 x a b c < 4294967296 := xor_lt (xor_lt (rotr_lt a hx) (rotr_lt b hx)) (rotr_lt c hx)
def chN (e f g : Nat) : Nat := g ^^^ (e &&& (f ^^^ g))
def majN (a b c : Nat) : Nat := (a &&& b) ^^^ (a &&& c) ^^^ (b &&& c)
theorem chN_lt {e f g : Nat} (hf : f < 4294967296) (hg : g < 4294967296) : chN e f g < 4294967296 := xor_lt hg (and_lt (xor_lt hf hg))
theorem majN_lt {a b c : Nat} (hb : b < 4294967296) (hc : c < 4294967296) : majN a b c < 4294967296 := xor_lt (xor_lt (and_lt hb) (and_lt hc)) (and_lt hc)
/-- Likewise, as the reference has it. -/
theorem ch_ref {e f g : Nat} (he : e < 4294967296) (hg : g < 4294967296) : (e &&& f) ^^^ ((4294967295 - e) &&& g) = chN e f g := by
  refine Nat.eq_of_testBit_eq fun i => ?_
  have h1 : (4294967295 - e).testBit i = (decide (i < 32) && !e.testBit i) := by
    have := Nat.testBit_two_pow_sub_succ (n := 32) he i
    rw [show 2 ^ 32 - (e + 1) = 4294967295 - e by omega] at this
    exact this
  have h2 : ¬ i < 32 → g.testBit i = false := fun h => Nat.testBit_lt_two_pow (Nat.lt_of_lt_of_le hg (show 2 ^ 32 ≤ 2 ^ i from Nat.pow_le_pow_right (by decide) (by omega)))
  simp only [chN, Nat.testBit_xor, Nat.testBit_and, h1]
  by_cases h : i < 32
  · cases e.testBit i <;> cases f.testBit i <;> cases g.testBit i <;> simp [h]
  · rw [h2 h]
    cases e.testBit i <;> cases f.testBit i <;> simp [h]
theorem maj_ref (a b c : Nat) : (a &&& b) ||| (a &&& c) ||| (b &&& c) = majN a b c := by
  refine Nat.eq_of_testBit_eq fun i => ?_
  simp only [majN, Nat.testBit_xor, Nat.testBit_and, Nat.testBit_or]
  cases a.testBit i <;> cases b.testBit i <;> cases c.testBit i <;> rfl

/-! ### The schedule -/
/-- Four bytes, the highest first. -/
def be4 (a b c d : Nat) : Nat := ((a * 256 + b) * 256 + c) * 256 + d
def wordN (b : Nat → Nat) (i : Nat) : Nat := be4 (b (4 * i)) (b (4 * i + 1)) (b (4 * i + 2)) (b (4 * i + 3))
def moreN (w16 w7 w15 w2 : Nat) : Nat := (w16 + w7 + (rot2 w15 7 18 ^^^ w15 / 8) + (rot2 w2 17 19 ^^^ w2 / 1024)) % 4294967296
/-- The first n words. -/
def sched (b : Nat → Nat) : Nat → List Nat
  | 0 => []
  | n + 1 => let l := sched b n
    l ++ [if n < 16 then wordN b n else moreN (l.getD (n - 16) 0) (l.getD (n - 7) 0) (l.getD (n - 15) 0) (l.getD (n - 2) 0)]
theorem sched_length (b : Nat → Nat) : ∀ n, (sched b n).length = n
  | 0 => rfl
  | n + 1 => by simp [sched, sched_length b n]
theorem moreN_lt (a b c d : Nat) : moreN a b c d < 4294967296 := Nat.mod_lt _ (by decide)
theorem wordN_lt {b : Nat → Nat} (hb : ∀ j, b j < 256) (i : Nat) : wordN b i < 4294967296 := by
  have h0 := hb (4 * i); have h1 := hb (4 * i + 1); have h2 := hb (4 * i + 2); have h3 := hb (4 * i + 3)
  unfold wordN be4
  omega
theorem sched_lt {b : Nat → Nat} (hb : ∀ j, b j < 256) : ∀ n, ∀ x ∈ sched b n, x < 4294967296
  | 0, x, h => nomatch h
  | n + 1, x, h => by
    simp only [sched, List.mem_append, List.mem_singleton] at h
    rcases h with h | rfl
    · exact sched_lt hb n x h
    · split
      · exact wordN_lt hb n
      · exact moreN_lt _ _ _ _
theorem sched_getD_lt {b : Nat → Nat} (hb : ∀ j, b j < 256) (n i : Nat) : (sched b n).getD i 0 < 4294967296 := by
  rw [List.getD_eq_getElem?_getD]
  cases h : (sched b n)[i]? with
  | none => decide
  | some x => exact sched_lt hb n x (List.mem_of_getElem? h)
theorem sched_grow (b : Nat → Nat) (i : Nat) : ∀ n m, i < n → n ≤ m → (sched b m).getD i 0 = (sched b n).getD i 0 := by
  intro n m h hm
  induction m with
  | zero => omega
  | succ m ih =>
    by_cases e : n = m + 1
    · rw [e]
    · rw [← ih (by omega)]
      simp only [sched]
      rw [List.getD_eq_getElem?_getD, List.getElem?_append_left (by rw [sched_length]; omega), ← List.getD_eq_getElem?_getD]

/-! ### The rounds -/
structure S8 where
  a : Nat
  b : Nat
  c : Nat
  d : Nat
  e : Nat
  f : Nat
  g : Nat
  h : Nat
structure S8.ok (s : S8) : Prop where
  a : s.a < 4294967296
  b : s.b < 4294967296
  c : s.c < 4294967296
  d : s.d < 4294967296
  e : s.e < 4294967296
  f : s.f < 4294967296
  g : s.g < 4294967296
  h : s.h < 4294967296
def tN (s : S8) (k w : Nat) : Nat := (s.h + rot3 s.e 6 11 25 + chN s.e s.f s.g + k + w) % 4294967296
def uN (s : S8) (t : Nat) : Nat := (t + (rot3 s.a 2 13 22 + majN s.a s.b s.c)) % 4294967296
def roundN (s : S8) (k w : Nat) : S8 := let t := tN s k w
  ⟨uN s t, s.a, s.b, s.c, (s.d + t) % 4294967296, s.e, s.f, s.g⟩
theorem roundN_ok {s : S8} (h : s.ok) (k w : Nat) : (roundN s k w).ok := ⟨Nat.mod_lt _ (by decide), h.a, h.b, h.c, Nat.mod_lt _ (by decide), h.e, h.f, h.g⟩
def steps : List Nat := [
  0x428a2f98, 0x71374491, 0xb5c0fbcf, 0xe9b5dba5, 0x3956c25b, 0x59f111f1, 0x923f82a4, 0xab1c5ed5,
  0xd807aa98, 0x12835b01, 0x243185be, 0x550c7dc3, 0x72be5d74, 0x80deb1fe, 0x9bdc06a7, 0xc19bf174,
  0xe49b69c1, 0xefbe4786, 0x0fc19dc6, 0x240ca1cc, 0x2de92c6f, 0x4a7484aa, 0x5cb0a9dc, 0x76f988da,
  0x983e5152, 0xa831c66d, 0xb00327c8, 0xbf597fc7, 0xc6e00bf3, 0xd5a79147, 0x06ca6351, 0x14292967,
  0x27b70a85, 0x2e1b2138, 0x4d2c6dfc, 0x53380d13, 0x650a7354, 0x766a0abb, 0x81c2c92e, 0x92722c85,
  0xa2bfe8a1, 0xa81a664b, 0xc24b8b70, 0xc76c51a3, 0xd192e819, 0xd6990624, 0xf40e3585, 0x106aa070,
  0x19a4c116, 0x1e376c08, 0x2748774c, 0x34b0bcb5, 0x391c0cb3, 0x4ed8aa4a, 0x5b9cca4f, 0x682e6ff3,
  0x748f82ee, 0x78a5636f, 0x84c87814, 0x8cc70208, 0x90befffa, 0xa4506ceb, 0xbef9a3f7, 0xc67178f2]
theorem steps_lt : ∀ i, steps.getD i 0 < 4294967296 := fun i => by
  by_cases h : i < 64
  · have : ∀ j : Fin 64, steps.getD j.1 0 < 4294967296 := by decide
    exact this ⟨i, h⟩
  · rw [List.getD_eq_getElem?_getD, List.getElem?_eq_none (by show 64 ≤ i; omega)]; decide
/-- After n rounds. -/
def runN (s : S8) (l : List Nat) : Nat → S8
  | 0 => s
  | n + 1 => roundN (runN s l n) (steps.getD n 0) (l.getD n 0)
theorem runN_ok {s : S8} (h : s.ok) (l : List Nat) : ∀ n, (runN s l n).ok
  | 0 => h
  | n + 1 => roundN_ok (runN_ok h l n) _ _
def addS (s t : S8) : S8 := ⟨(s.a + t.a) % 4294967296, (s.b + t.b) % 4294967296, (s.c + t.c) % 4294967296, (s.d + t.d) % 4294967296, (s.e + t.e) % 4294967296, (s.f + t.f) % 4294967296, (s.g + t.g) % 4294967296, (s.h + t.h) % 4294967296⟩
theorem addS_ok (s t : S8) : (addS s t).ok := ⟨Nat.mod_lt _ (by decide), Nat.mod_lt _ (by decide), Nat.mod_lt _ (by decide), Nat.mod_lt _ (by decide), Nat.mod_lt _ (by decide), Nat.mod_lt _ (by decide), Nat.mod_lt _ (by decide), Nat.mod_lt _ (by decide)⟩
/-- A block of 64 bytes is taken in. -/
def takeN (s : S8) (b : Nat → Nat) : S8 := addS (runN s (sched b 64) 64) s
def beginN : S8 := ⟨0x6a09e667, 0xbb67ae85, 0x3c6ef372, 0xa54ff53a, 0x510e527f, 0x9b05688c, 0x1f83d9ab, 0x5be0cd19⟩
theorem beginN_ok : beginN.ok := ⟨by decide, by decide, by decide, by decide, by decide, by decide, by decide, by decide⟩

theorem wordN_congr {b c : Nat → Nat} {n : Nat} (hn : n < 16) (h : ∀ j, j < 64 → b j = c j) : wordN b n = wordN c n := by
  unfold wordN
  rw [h _ (by omega), h _ (by omega), h _ (by omega), h _ (by omega)]
theorem sched_congr {b c : Nat → Nat} (h : ∀ j, j < 64 → b j = c j) : ∀ n, sched b n = sched c n
  | 0 => rfl
  | n + 1 => by
    simp only [sched, sched_congr h n]
    by_cases hn : n < 16
    · rw [if_pos hn, if_pos hn, wordN_congr hn h]
    · rw [if_neg hn, if_neg hn]
theorem takeN_congr {b c : Nat → Nat} (s : S8) (h : ∀ j, j < 64 → b j = c j) : takeN s b = takeN s c := by
  unfold takeN
  rw [sched_congr h]

/-! ### Messages -/
/-- Behind k blocks of a message. -/
def blocksN (m : List Nat) : Nat → S8
  | 0 => beginN
  | k + 1 => takeN (blocksN m k) (fun j => m.getD (64 * k + j) 0)
theorem blocksN_ok (m : List Nat) : ∀ k, (blocksN m k).ok
  | 0 => beginN_ok
  | k + 1 => addS_ok _ _
theorem blocksN_congr {m l : List Nat} : ∀ k, (∀ j, j < 64 * k → m.getD j 0 = l.getD j 0) → blocksN m k = blocksN l k
  | 0, _ => rfl
  | k + 1, h => by
    simp only [blocksN]
    rw [blocksN_congr k (fun j hj => h j (by omega))]
    exact takeN_congr _ fun j hj => h _ (by omega)
theorem blocksN_append (m l : List Nat) (k : Nat) (h : 64 * k ≤ m.length) : blocksN (m ++ l) k = blocksN m k :=
  blocksN_congr k fun j hj => by rw [List.getD_eq_getElem?_getD, List.getD_eq_getElem?_getD, List.getElem?_append_left (by omega)]
/-- How many bytes of 0 are put behind. -/
def gapN (n : Nat) : Nat := (119 - n % 64) % 64
def be8 (n : Nat) : List Nat := [n / 2 ^ 56 % 256, n / 2 ^ 48 % 256, n / 2 ^ 40 % 256, n / 2 ^ 32 % 256, n / 2 ^ 24 % 256, n / 2 ^ 16 % 256, n / 2 ^ 8 % 256, n % 256]
def tailN (n : Nat) : List Nat := 128 :: (List.replicate (gapN n) 0 ++ be8 (8 * n % 18446744073709551616))
def padN (m : List Nat) : List Nat := m ++ tailN m.length
theorem gap_fits (n : Nat) : (n + 1 + gapN n) % 64 = 56 := by unfold gapN; omega
theorem tailN_length (n : Nat) : (tailN n).length = 9 + gapN n := by simp [tailN, be8]; omega
theorem padN_length (m : List Nat) : (padN m).length % 64 = 0 := by
  have := gap_fits m.length
  simp only [padN, List.length_append, tailN_length]
  omega
/-- A state's bytes. -/
def byteN (s : S8) (i : Nat) : Nat := ([s.a, s.b, s.c, s.d, s.e, s.f, s.g, s.h].getD (i / 4) 0) / 2 ^ (24 - i % 4 * 8) % 256
def bytesN (s : S8) : List Nat := (List.range 32).map (byteN s)
/-- The hash of a message. -/
def hashN (m : List Nat) : List Nat := bytesN (blocksN (padN m) ((padN m).length / 64))
theorem hash_none : hashN [] = [0xe3, 0xb0, 0xc4, 0x42, 0x98, 0xfc, 0x1c, 0x14, 0x9a, 0xfb, 0xf4, 0xc8, 0x99, 0x6f, 0xb9, 0x24, 0x27, 0xae, 0x41, 0xe4, 0x64, 0x9b, 0x93, 0x4c, 0xa4, 0x95, 0x99, 0x1b, 0x78, 0x52, 0xb8, 0x55] := by decide +kernel
theorem hash_abc : hashN [97, 98, 99] = [0xba, 0x78, 0x16, 0xbf, 0x8f, 0x01, 0xcf, 0xea, 0x41, 0x41, 0x40, 0xde, 0x5d, 0xae, 0x22, 0x23, 0xb0, 0x03, 0x61, 0xa3, 0x96, 0x17, 0x7a, 0x9c, 0xb4, 0x10, 0xff, 0x61, 0xf2, 0x00, 0x15, 0xad] := by decide +kernel
end Go.Proofs.Ytllmpiamcghboaa
