/- SHA-256 on plain numbers: words of 32 bits, the schedule, the rounds, messages and their hashes. Nothing of the program. -/
import Derived.WalkKit
import Derived.Laws.BitsLemmas
import Derived.Test.YthbcgcncoggagaaKA
import Derived.Test.YthbcgcncoggagaaKF
import Derived.Test.YthbcgcncoggagaaProg
set_option linter.unusedVariables false
set_option linter.unusedSimpArgs false
namespace Go.Proofs.Ythbcgcncoggagaa
open Go.RowKit
def rotr (x k : Nat) : Nat := x / 2 ^ k ||| x * 2 ^ (32 - k) % 4294967296
def rot2 (x a b : Nat) : Nat := rotr x a ^^^ rotr x b
def chN (e f g : Nat) : Nat := g ^^^ (e &&& (f ^^^ g))
def be4 (a b c d : Nat) : Nat := ((a * 256 + b) * 256 + c) * 256 + d
def wordN (b : Nat → Nat) (i : Nat) : Nat := be4 (b (4 * i)) (b (4 * i + 1)) (b (4 * i + 2)) (b (4 * i + 3))
def moreN (w16 w7 w15 w2 : Nat) : Nat := (w16 + w7 + (rot2 w15 7 18 ^^^ w15 / 8) + (rot2 w2 17 19 ^^^ w2 / 1024)) % 4294967296
def sched (b : Nat → Nat) : Nat → List Nat
  | 0 => []
  | n + 1 => let l := sched b n
    l ++ [if n < 16 then wordN b n else moreN (l.getD (n - 16) 0) (l.getD (n - 7) 0) (l.getD (n - 15) 0) (l.getD (n - 2) 0)]
structure S8 where
  a : Nat
  b : Nat
  c : Nat
  d : Nat
  e : Nat
  f : Nat
  g : Nat
  h : Nat
structure S8.ok (s : S8) : Prop where
  a : s.a < 4294967296
  b : s.b < 4294967296
  c : s.c < 4294967296
  d : s.d < 4294967296
  e : s.e < 4294967296
  f : s.f < 4294967296
  g : s.g < 4294967296
  h : s.h < 4294967296
def steps : List Nat := [
  0x428a2f98, 0x71374491, 0xb5c0fbcf, 0xe9b5dba5, 0x3956c25b, 0x59f111f1, 0x923f82a4, 0xab1c5ed5,
  0xd807aa98, 0x12835b01, 0x243185be, 0x550c7dc3, 0x72be5d74, 0x80deb1fe, 0x9bdc06a7, 0xc19bf174,
  0xe49b69c1, 0xefbe4786, 0x0fc19dc6, 0x240ca1cc, 0x2de92c6f, 0x4a7484aa, 0x5cb0a9dc, 0x76f988da,
  0x983e5152, 0xa831c66d, 0xb00327c8, 0xbf597fc7, 0xc6e00bf3, 0xd5a79147, 0x06ca6351, 0x14292967,
  0x27b70a85, 0x2e1b2138, 0x4d2c6dfc, 0x53380d13, 0x650a7354, 0x766a0abb, 0x81c2c92e, 0x92722c85,
  0xa2bfe8a1, 0xa81a664b, 0xc24b8b70, 0xc76c51a3, 0xd192e819, 0xd6990624, 0xf40e3585, 0x106aa070,
  0x19a4c116, 0x1e376c08, 0x2748774c, 0x34b0bcb5, 0x391c0cb3, 0x4ed8aa4a, 0x5b9cca4f, 0x682e6ff3,
  0x748f82ee, 0x78a5636f, 0x84c87814, 0x8cc70208, 0x90befffa, 0xa4506ceb, 0xbef9a3f7, 0xc67178f2]
def byteN (s : S8) (i : Nat) : Nat := ([s.a, s.b, s.c, s.d, s.e, s.f, s.g, s.h].getD (i / 4) 0) / 2 ^ (24 - i % 4 * 8) % 256
end Go.Proofs.Ythbcgcncoggagaa
namespace Go.Proofs.Ythbcgcncoggagaa
open Go.RowKit
attribute [local irreducible] Calls
instance inShaMix1 : CellT Try.prog 3 := .mk' (by kernel_rfl) (by kernel_rfl)
end Go.Proofs.Ythbcgcncoggagaa
namespace Go.Proofs.Ythbcgcncoggagaa
open Go.RowKit
instance inShaRows1 : CellT Try.prog 140 := .mk' (by kernel_rfl) (by kernel_rfl)
instance inShaRows2 : CellT Try.prog 5 := .mk' (by kernel_rfl) (by kernel_rfl)
instance inShaRows3 : CellT Try.prog 22 := .mk' (by kernel_rfl) (by kernel_rfl)
instance inShaRows4 : RowT Try.prog 142 8 := .mk' (by kernel_rfl) (by kernel_rfl)
instance inShaRows5 : RowT Try.prog 144 64 := .mk' (by kernel_rfl) (by kernel_rfl)
instance inShaRows6 : RowT Try.prog 167 64 := .mk' (by kernel_rfl) (by kernel_rfl)
noncomputable def u32s (n : Nat) (w : Nat → Nat) : List Value := opq ((List.range n).map fun j => Value.int .u32 (w j : Int))
noncomputable def u8s (n : Nat) (w : Nat → Nat) : List Value := opq ((List.range n).map fun j => Value.int .u8 (w j : Int))
theorem u32s_def (n : Nat) (w : Nat → Nat) : u32s n w = (List.range n).map fun j => Value.int .u32 (w j : Int) := by unfold u32s; rw [xCb]
theorem u8s_def (n : Nat) (w : Nat → Nat) : u8s n w = (List.range n).map fun j => Value.int .u8 (w j : Int) := by unfold u8s; rw [xCb]
@[simp] theorem u32s_length (n : Nat) (w : Nat → Nat) : (u32s n w).length = n := by rw [u32s_def]; simp
@[simp] theorem u8s_length (n : Nat) (w : Nat → Nat) : (u8s n w).length = n := by rw [u8s_def]; simp
theorem u8s_at {n : Nat} {w : Nat → Nat} {i : Nat} (h : i < n) : (u8s n w)[i]? = some (.int .u8 (w i : Int)) := by rw [u8s_def]; simp [h]
instance inShaRows7 : ZeroT Try.prog 167 (u32s 64 fun _ => 0) := ⟨.agg (u32s 64 fun _ => 0).toArray, by rw [u32s_def]; kernel_rfl, rfl⟩
noncomputable def s8V (a b c d e f g h : Nat) : List Value := [.int .u32 a, .int .u32 b, .int .u32 c, .int .u32 d, .int .u32 e, .int .u32 f, .int .u32 g, .int .u32 h]
noncomputable def s8L (s : S8) : List Value := s8V s.a s.b s.c s.d s.e s.f s.g s.h
def S8.get (s : S8) (i : Nat) : Nat := [s.a, s.b, s.c, s.d, s.e, s.f, s.g, s.h].getD i 0
noncomputable def getF (s : S8) : Nat → Nat := opq s.get
noncomputable def sumRow (t s : S8) (i : Nat) : List Value := u32s 8 fun j => if j < i then (getF t j + getF s j) % 4294967296 else getF t j
@[simp] theorem sumRow_length (t s : S8) (i : Nat) : (sumRow t s i).length = 8 := u32s_length _ _
theorem s8L_length (s : S8) : (s8L s).length = 8 := rfl
def zeroS : S8 := ⟨0, 0, 0, 0, 0, 0, 0, 0⟩
instance inShaRows8 : ZeroT Try.prog 142 (s8L zeroS) := ⟨.agg (s8L zeroS).toArray, by kernel_rfl, rfl⟩
end Go.Proofs.Ythbcgcncoggagaa
namespace Go.Proofs.Ythbcgcncoggagaa
open Go.RowKit
attribute [local irreducible] Calls
noncomputable def stepF : Nat → Nat := opq fun i => steps.getD i 0
end Go.Proofs.Ythbcgcncoggagaa
namespace Go.Proofs.Ythbcgcncoggagaa
open Go.RowKit
attribute [local irreducible] Calls
noncomputable def wAt (b : Nat → Nat) : Nat → Nat := opq fun i => (sched b 64).getD i 0
noncomputable def wRow (b : Nat → Nat) (i : Nat) : List Value := u32s 64 fun j => if j < i then wAt b j else 0
@[simp] theorem wRow_length (b : Nat → Nat) (i : Nat) : (wRow b i).length = 64 := u32s_length _ _
def Stop (p : Prop) : Prop := p
theorem cutHere {p : Prop} (h : Stop p) : p := h
end Go.Proofs.Ythbcgcncoggagaa
