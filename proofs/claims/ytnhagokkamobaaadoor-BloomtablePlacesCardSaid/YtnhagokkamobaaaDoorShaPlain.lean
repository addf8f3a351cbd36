/- SHA-256 in plain Lean, over natural numbers. No program in sight. -/
import Derived.Test.YtnhagokkamobaaaDoorWirePlain
import Derived.Laws.BitsAllLaws
namespace Go.Proofs.YtnhagokkamobaaaDoor

def M32 : Nat := 4294967296
def shaK : List Nat := [
  0x428a2f98, 0x71374491, 0xb5c0fbcf, 0xe9b5dba5, 0x3956c25b, 0x59f111f1, 0x923f82a4, 0xab1c5ed5,
  0xd807aa98, 0x12835b01, 0x243185be, 0x550c7dc3, 0x72be5d74, 0x80deb1fe, 0x9bdc06a7, 0xc19bf174,
  0xe49b69c1, 0xefbe4786, 0x0fc19dc6, 0x240ca1cc, 0x2de92c6f, 0x4a7484aa, 0x5cb0a9dc, 0x76f988da,
  0x983e5152, 0xa831c66d, 0xb00327c8, 0xbf597fc7, 0xc6e00bf3, 0xd5a79147, 0x06ca6351, 0x14292967,
  0x27b70a85, 0x2e1b2138, 0x4d2c6dfc, 0x53380d13, 0x650a7354, 0x766a0abb, 0x81c2c92e, 0x92722c85,
  0xa2bfe8a1, 0xa81a664b, 0xc24b8b70, 0xc76c51a3, 0xd192e819, 0xd6990624, 0xf40e3585, 0x106aa070,
  0x19a4c116, 0x1e376c08, 0x2748774c, 0x34b0bcb5, 0x391c0cb3, 0x4ed8aa4a, 0x5b9cca4f, 0x682e6ff3,
  0x748f82ee, 0x78a5636f, 0x84c87814, 0x8cc70208, 0x90befffa, 0xa4506ceb, 0xbef9a3f7, 0xc67178f2]
def shaI : List Nat := [0x6a09e667, 0xbb67ae85, 0x3c6ef372, 0xa54ff53a, 0x510e527f, 0x9b05688c, 0x1f83d9ab, 0x5be0cd19]

def rotr (n x : Nat) : Nat := (x / 2 ^ n) ||| (x * 2 ^ (32 - n) % 4294967296)
def add32 (a b : Nat) : Nat := (a + b) % 4294967296
def sig0 (y : Nat) : Nat := rotr 7 y ^^^ rotr 18 y ^^^ (y / 2 ^ 3)
def sig1 (x : Nat) : Nat := rotr 17 x ^^^ rotr 19 x ^^^ (x / 2 ^ 10)
def bsig1 (e : Nat) : Nat := rotr 6 e ^^^ rotr 11 e ^^^ rotr 25 e
def bsig0 (a : Nat) : Nat := rotr 2 a ^^^ rotr 13 a ^^^ rotr 22 a
def chF (e f g : Nat) : Nat := (e &&& f) ^^^ ((4294967295 - e) &&& g)
def majF (a b c : Nat) : Nat := (a &&& b) ^^^ (a &&& c) ^^^ (b &&& c)

/-- A word out of four bytes. -/
def word (b : List UInt8) (t : Nat) : Nat :=
  ((b.getD (4 * t) 0).toNat * 2 ^ 24) ||| ((b.getD (4 * t + 1) 0).toNat * 2 ^ 16) ||| ((b.getD (4 * t + 2) 0).toNat * 2 ^ 8) ||| (b.getD (4 * t + 3) 0).toNat

/-- The next word of the schedule. -/
def nextW (l : List Nat) (t : Nat) : Nat := add32 (add32 (add32 (sig1 (l.getD (t - 2) 0)) (l.getD (t - 7) 0)) (sig0 (l.getD (t - 15) 0))) (l.getD (t - 16) 0)

def schedTo (b : List UInt8) : Nat → List Nat
  | 0 => []
  | t + 1 => let l := schedTo b t; l ++ [if t < 16 then word b t else nextW l t]

structure S8 where
  a : Nat
  b : Nat
  c : Nat
  d : Nat
  e : Nat
  f : Nat
  g : Nat
  h : Nat

def S8.t1 (s : S8) (k w : Nat) : Nat := add32 (add32 (add32 (add32 s.h (bsig1 s.e)) (chF s.e s.f s.g)) k) w
def S8.t2 (s : S8) : Nat := add32 (bsig0 s.a) (majF s.a s.b s.c)
def S8.rnd (s : S8) (k w : Nat) : S8 := ⟨add32 (s.t1 k w) s.t2, s.a, s.b, s.c, add32 s.d (s.t1 k w), s.e, s.f, s.g⟩

def rounds (W : List Nat) (s : S8) : Nat → S8
  | 0 => s
  | t + 1 => (rounds W s t).rnd (shaK.getD t 0) (W.getD t 0)

def S8.of (l : List Nat) : S8 := ⟨l.getD 0 0, l.getD 1 0, l.getD 2 0, l.getD 3 0, l.getD 4 0, l.getD 5 0, l.getD 6 0, l.getD 7 0⟩
def S8.list (s : S8) : List Nat := [s.a, s.b, s.c, s.d, s.e, s.f, s.g, s.h]

def compress (H : List Nat) (b : List UInt8) : List Nat := List.zipWith add32 H (rounds (schedTo b 64) (S8.of H) 64).list

/-- The words behind n blocks. -/
def hashN : Nat → List Nat → List UInt8 → List Nat
  | 0, H, _ => H
  | n + 1, H, b => hashN n (compress H (b.take 64)) (b.drop 64)

def byteAt (w k : Nat) : UInt8 := UInt8.ofNat (w / 2 ^ (8 * k) % 256)
def digest (H : List Nat) : List UInt8 := H.flatMap fun w => [byteAt w 3, byteAt w 2, byteAt w 1, byteAt w 0]

def shaPad (n : Nat) : List UInt8 := 128 :: List.replicate ((119 - n % 64) % 64) 0 ++ [byteAt (n * 8) 7, byteAt (n * 8) 6, byteAt (n * 8) 5, byteAt (n * 8) 4, byteAt (n * 8) 3, byteAt (n * 8) 2, byteAt (n * 8) 1, byteAt (n * 8) 0]
def sha (x : List UInt8) : List UInt8 := digest (hashN ((x ++ shaPad x.length).length / 64) shaI (x ++ shaPad x.length))

theorem sha_empty : sha [] = [0xe3, 0xb0, 0xc4, 0x42, 0x98, 0xfc, 0x1c, 0x14, 0x9a, 0xfb, 0xf4, 0xc8, 0x99, 0x6f, 0xb9, 0x24, 0x27, 0xae, 0x41, 0xe4, 0x64, 0x9b, 0x93, 0x4c, 0xa4, 0x95, 0x99, 0x1b, 0x78, 0x52, 0xb8, 0x55] := by decide +kernel

end Go.Proofs.YtnhagokkamobaaaDoor
