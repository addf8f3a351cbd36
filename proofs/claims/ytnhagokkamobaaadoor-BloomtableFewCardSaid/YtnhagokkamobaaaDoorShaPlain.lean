/- SHA-256 in plain Lean, over natural numbers. No program in sight. -/
import Derived.Test.YtnhagokkamobaaaDoorWirePlain
import Derived.Laws.BitsAllLaws
namespace Go.Proofs.YtnhagokkamobaaaDoor

def M32 : Nat := 4294967296
def shaK : List Nat := [
  0x428a2f98, 0x71374491, 0xb5c0fbcf, 0xe9b5dba5, 0x3956c25b, 0x59f111f1, 0x923f82a4, 0xab1c5ed5,
  0xd807aa98, 0x12835b01, 0x243185be, 0x550c7dc3, 0x72be5d74, 0x80deb1fe, 0x9bdc06a7, 0xc19bf174,
  0xe49b69c1, 0xefbe4786, 0x0fc19dc6, 0x240ca1cc, 0x2de92c6f, 0x4a7484aa, 0x5cb0a9dc, 0x76f988da,
  0x983e5152, 0xa831c66d, 0xb00327c8, 0xbf597fc7, 0xc6e00bf3, 0xd5a79147, 0x06ca6351, 0x14292967,
  0x27b70a85, 0x2e1b2138, 0x4d2c6dfc, 0x53380d13, 0x650a7354, 0x766a0abb, 0x81c2c92e, 0x92722c85,
  0xa2bfe8a1, 0xa81a664b, 0xc24b8b70, 0xc76c51a3, 0xd192e819, 0xd6990624, 0xf40e3585, 0x106aa070,
  0x19a4c116, 0x1e376c08, 0x2748774c, 0x34b0bcb5, 0x391c0cb3, 0x4ed8aa4a, 0x5b9cca4f, 0x682e6ff3,
  0x748f82ee, 0x78a5636f, 0x84c87814, 0x8cc70208, 0x90befffa, 0xa4506ceb, 0xbef9a3f7, 0xc67178f2]
def shaI : List Nat := [0x6a09e667, 0xbb67ae85, 0x3c6ef372, 0xa54ff53a, 0x510e527f, 0x9b05688c, 0x1f83d9ab, 0x5be0cd19]

def rotr (n x : Nat) : Nat := (x / 2 ^ n) ||| (x * 2 ^ (32 - n) % 4294967296)
def add32 (a b : Nat) : Nat := (a + b) % 4294967296
def sig0 (y : Nat) : Nat := rotr 7 y ^^^ rotr 18 y ^^^ (y / 2 ^ 3)
def sig1 (x : Nat) : Nat := rotr 17 x ^^^ rotr 19 x ^^^ (x / 2 ^ 10)
def bsig1 (e : Nat) : Nat := rotr 6 e ^^^ rotr 11 e ^^^ rotr 25 e
def bsig0 (a : Nat) : Nat := rotr 2 a ^^^ rotr 13 a ^^^ rotr 22 a
def chF (e f g : Nat) : Nat := (e &&& f) ^^^ ((4294967295 - e) &&& g)
def majF (a b c : Nat) : Nat := (a &&& b) ^^^ (a &&& c) ^^^ (b &&& c)

/-- A word out of four bytes. -/
def word (b : List UInt8) (t : Nat) : Nat :=
  ((b.getD (4 * t) 0).toNat * 2 ^ 24) ||| ((b.getD (4 * t + 1) 0).toNat * 2 ^ 16) ||| ((b.getD (4 * t + 2) 0).toNat * 2 ^ 8) ||| (b.getD (4 * t + 3) 0).toNat

/-- The next word of the schedule. -/
def nextW (l : List Nat) (t : Nat) : Nat := add32 (add32 (add32 (sig1 (l.getD (t - 2) 0)) (l.getD (t - 7) 0)) (sig0 (l.getD (t - 15) 0))) (l.getD (t - 16) 0)

def schedTo (b : List UInt8) : Nat → List Nat
  | 0 => []
  | t + 1 => let l := schedTo b t; l ++ [if t < 16 then word b t else nextW l t]

structure S8 where
  a : Nat
  b : Nat
  c : Nat
  d : Nat
  e : Nat
  f : Nat
  g : Nat
  h : Nat

def S8.t1 (s : S8) (k w : Nat) : Nat := add32 (add32 (add32 (add32 s.h (bsig1 s.e)) (chF s.e s.f s.g)) k) w
def S8.t2 (s : S8) : Nat := add32 (bsig0 s.a) (majF s.a s.b s.c)
def S8.rnd (s : S8) (k w : Nat) : S8 := ⟨add32 (s.t1 k w) s.t2, s.a, s.b, s.c, add32 s.d (s.t1 k w), s.e, s.f, s.g⟩

def rounds (W : List Nat) (s : S8) : Nat → S8
  | 0 => s
  | t + 1 => (rounds W s t).rnd (shaK.getD t 0) (W.getD t 0)

def S8.of (l : List Nat) : S8 := ⟨l.getD 0 0, l.getD 1 0, l.getD 2 0, l.getD 3 0, l.getD 4 0, l.getD 5 0, l.getD 6 0, l.getD 7 0⟩
def S8.list (s : S8) : List Nat := [s.a, s.b, s.c, s.d, s.e, s.f, s.g, s.h]

def compress (H : List Nat) (b : List UInt8) : List Nat := List.zipWith add32 H (rounds (schedTo b 64) (S8.of H) 64).list

/-- The words behind n blocks. -/
def hashN : Nat → List Nat → List UInt8 → List Nat
  | 0, H, _ => H
  | n + 1, H, b => hashN n (compress H (b.take 64)) (b.drop 64)

def byteAt (w k : Nat) : UInt8 := UInt8.ofNat (w / 2 ^ (8 * k) % 256)
def digest (H : List Nat) : List UInt8 := H.flatMap fun w => [byteAt w 3, byteAt w 2, byteAt w 1, byteAt w 0]

def shaPad (n : Nat) : List UInt8 := 128 :: List.replicate ((119 - n % 64) % 64) 0 ++ [byteAt (n * 8) 7, byteAt (n * 8) 6, byteAt (n * 8) 5, byteAt (n * 8) 4, byteAt (n * 8) 3, byteAt (n * 8) 2, byteAt (n * 8) 1, byteAt (n * 8) 0]
def sha (x : List UInt8) : List UInt8 := digest (hashN ((x ++ shaPad x.length).length / 64) shaI (x ++ shaPad x.length))

theorem sha_empty : sha [] = [0xe3, 0xb0, 0xc4, 0x42, 0x98, 0xfc, 0x1c, 0x14, 0x9a, 0xfb, 0xf4, 0xc8, 0x99, 0x6f, 0xb9, 0x24, 0x27, 0xae, 0x41, 0xe4, 0x64, 0x9b, 0x93, 0x4c, 0xa4, 0x95, 0x99, 0x1b, 0x78, 0x52, 0xb8, 0x55] := by decide +kernel

end Go.Proofs.YtnhagokkamobaaaDoor
namespace Go.Proofs.YtnhagokkamobaaaDoor

/-- A word. -/
def W32 (n : Nat) : Prop := n < 4294967296

theorem W32.add (a b : Nat) : W32 (add32 a b) := Nat.mod_lt _ (by decide)
theorem W32.xor {a b : Nat} (ha : W32 a) (hb : W32 b) : W32 (a ^^^ b) := Nat.xor_lt_two_pow (n := 32) ha hb
theorem W32.or {a b : Nat} (ha : W32 a) (hb : W32 b) : W32 (a ||| b) := Nat.or_lt_two_pow (n := 32) ha hb
theorem W32.and {a b : Nat} (hb : W32 b) : W32 (a &&& b) := Nat.lt_of_le_of_lt Nat.and_le_right hb
theorem W32.div {a : Nat} (ha : W32 a) (k : Nat) : W32 (a / k) := Nat.lt_of_le_of_lt (Nat.div_le_self _ _) ha
theorem W32.not (a : Nat) : W32 (4294967295 - a) := by unfold W32; omega
theorem W32.rotr {a : Nat} (ha : W32 a) (n : Nat) : W32 (rotr n a) := (ha.div _).or (Nat.mod_lt _ (by decide))
theorem W32.sig0 {a : Nat} (ha : W32 a) : W32 (sig0 a) := ((ha.rotr 7).xor (ha.rotr 18)).xor (ha.div _)
theorem W32.sig1 {a : Nat} (ha : W32 a) : W32 (sig1 a) := ((ha.rotr 17).xor (ha.rotr 19)).xor (ha.div _)
theorem W32.bsig0 {a : Nat} (ha : W32 a) : W32 (bsig0 a) := ((ha.rotr 2).xor (ha.rotr 13)).xor (ha.rotr 22)
theorem W32.bsig1 {a : Nat} (ha : W32 a) : W32 (bsig1 a) := ((ha.rotr 6).xor (ha.rotr 11)).xor (ha.rotr 25)
theorem W32.ch {e f g : Nat} (hf : W32 f) (hg : W32 g) : W32 (chF e f g) := (W32.and hf).xor (W32.and hg)
theorem W32.maj {a b c : Nat} (hb : W32 b) (hc : W32 c) : W32 (majF a b c) := ((W32.and hb).xor (W32.and hc)).xor (W32.and hc)

theorem byte_w32 (b : UInt8) (k : Nat) (hk : k ≤ 24) : W32 (b.toNat * 2 ^ k) := by
  have h1 := UInt8.toNat_lt b
  have h2 : 2 ^ k ≤ 2 ^ 24 := Nat.pow_le_pow_right (by decide) hk
  have h3 : b.toNat * 2 ^ k ≤ 255 * 2 ^ 24 := Nat.mul_le_mul (by omega) h2
  unfold W32
  omega

theorem W32.word (b : List UInt8) (t : Nat) : W32 (word b t) := by
  have h0 := UInt8.toNat_lt (b.getD (4 * t + 3) 0)
  exact (((byte_w32 _ 24 (by omega)).or (byte_w32 _ 16 (by omega))).or (byte_w32 _ 8 (by omega))).or (by unfold W32; omega)

theorem W32.sched (b : List UInt8) : ∀ t, ∀ x ∈ schedTo b t, W32 x
  | 0, x, hx => by cases hx
  | t + 1, x, hx => by
    simp only [schedTo] at hx
    rcases List.mem_append.1 hx with h | h
    · exact W32.sched b t x h
    · simp only [List.mem_cons, List.not_mem_nil, or_false] at h
      rw [h]
      split
      · exact W32.word b t
      · exact W32.add _ _

theorem sched_len (b : List UInt8) : ∀ t, (schedTo b t).length = t
  | 0 => rfl
  | t + 1 => by simp only [schedTo, List.length_append, List.length_cons, List.length_nil, sched_len b t]

theorem sched_get (b : List UInt8) : ∀ (n t : Nat), t < n → (schedTo b n)[t]? = some (if t < 16 then word b t else nextW (schedTo b t) t)
  | 0, t, h => by omega
  | n + 1, t, h => by
    simp only [schedTo]
    rcases (by omega : t < n ∨ t = n) with h' | rfl
    · rw [List.getElem?_append_left (by rw [sched_len]; exact h'), sched_get b n t h']
    · rw [List.getElem?_append_right (by rw [sched_len]; exact Nat.le_refl _), sched_len]
      simp

theorem getD_w32 {l : List Nat} (h : ∀ x ∈ l, W32 x) (i : Nat) : W32 (l.getD i 0) := by
  rw [List.getD_eq_getElem?_getD]
  cases hg : l[i]? with
  | none => show (0 : Nat) < 4294967296; decide
  | some x => exact h x (List.mem_of_getElem? hg)

theorem shaK_w32 : ∀ x ∈ shaK, W32 x := by
  have : (shaK.all fun x => decide (x < 4294967296)) = true := by decide +kernel
  intro x hx
  have := List.all_eq_true.1 this x hx
  simpa [W32] using this
theorem shaI_w32 : ∀ x ∈ shaI, W32 x := by
  have : (shaI.all fun x => decide (x < 4294967296)) = true := by decide +kernel
  intro x hx
  have := List.all_eq_true.1 this x hx
  simpa [W32] using this

structure S8.Ok (s : S8) : Prop where
  a : W32 s.a
  b : W32 s.b
  c : W32 s.c
  d : W32 s.d
  e : W32 s.e
  f : W32 s.f
  g : W32 s.g
  h : W32 s.h

theorem S8.Ok.rnd {s : S8} (h : s.Ok) (k w : Nat) : (s.rnd k w).Ok := ⟨W32.add _ _, h.a, h.b, h.c, W32.add _ _, h.e, h.f, h.g⟩
theorem S8.Ok.rounds {s : S8} (h : s.Ok) (W : List Nat) : ∀ t, (rounds W s t).Ok
  | 0 => h
  | t + 1 => (S8.Ok.rounds h W t).rnd _ _
theorem S8.ok_of {l : List Nat} (h : ∀ x ∈ l, W32 x) : (S8.of l).Ok := ⟨getD_w32 h 0, getD_w32 h 1, getD_w32 h 2, getD_w32 h 3, getD_w32 h 4, getD_w32 h 5, getD_w32 h 6, getD_w32 h 7⟩

theorem compress_w32 (H : List Nat) (b : List UInt8) : ∀ x ∈ compress H b, W32 x := by
  intro x hx
  unfold compress at hx
  obtain ⟨i, hi⟩ := List.mem_iff_getElem?.1 hx
  rw [List.getElem?_zipWith] at hi
  split at hi
  · simp only [Option.some.injEq] at hi
    rw [← hi]
    exact W32.add _ _
  · cases hi
theorem compress_len (H : List Nat) (b : List UInt8) (h : H.length = 8) : (compress H b).length = 8 := by
  unfold compress
  rw [List.length_zipWith, h]
  rfl

theorem hashN_ok : ∀ (n : Nat) (H : List Nat) (b : List UInt8), H.length = 8 → (∀ x ∈ H, W32 x) → (hashN n H b).length = 8 ∧ ∀ x ∈ hashN n H b, W32 x
  | 0, _, _, h1, h2 => ⟨h1, h2⟩
  | n + 1, H, _, h1, _ => hashN_ok n _ _ (compress_len H _ h1) (compress_w32 H _)

theorem hashN_succ : ∀ (n : Nat) (H : List Nat) (b : List UInt8), hashN (n + 1) H b = compress (hashN n H b) ((b.drop (64 * n)).take 64)
  | 0, H, b => by simp [hashN]
  | n + 1, H, b => by
    have ih := hashN_succ n (compress H (b.take 64)) (b.drop 64)
    rw [hashN, ih, List.drop_drop]
    rw [show 64 + 64 * n = 64 * (n + 1) by omega]
    rfl

/-- Only the first blocks count. -/
theorem hashN_take : ∀ (n : Nat) (H : List Nat) (a b : List UInt8), a.length = 64 * n → hashN n H (a ++ b) = hashN n H a
  | 0, _, _, _, _ => rfl
  | n + 1, H, a, b, h => by
    rw [hashN, hashN, List.take_append_of_le_length (by omega), List.drop_append_of_le_length (by omega)]
    exact hashN_take n _ _ _ (by rw [List.length_drop]; omega)

/-! How the walk spells it. -/
theorem u32_add (a b : Nat) : IntKind.u32.wrap ((a : Int) + (b : Int)) = ((add32 a b : Nat) : Int) := by
  rw [IntKind.wrap_u32']
  unfold add32
  omega

end Go.Proofs.YtnhagokkamobaaaDoor
namespace Go.Proofs.YtnhagokkamobaaaDoor

def shaWords (xs : List UInt8) : List Nat := hashN (xs.length / 64) shaI xs
def shaRem (xs : List UInt8) : List UInt8 := xs.drop (64 * (xs.length / 64))

theorem shaRem_len (xs : List UInt8) : (shaRem xs).length = xs.length % 64 := by
  unfold shaRem
  rw [List.length_drop]
  omega

theorem shaWords_ok (xs : List UInt8) : (shaWords xs).length = 8 ∧ ∀ x ∈ shaWords xs, W32 x := hashN_ok _ _ _ rfl shaI_w32

theorem hashN_pre (n : Nat) (H : List Nat) (a b : List UInt8) (h : 64 * n ≤ a.length) : hashN n H (a ++ b) = hashN n H a := by
  have e : a = a.take (64 * n) ++ a.drop (64 * n) := (List.take_append_drop _ _).symm
  have hl : (a.take (64 * n)).length = 64 * n := by rw [List.length_take]; omega
  rw [e, List.append_assoc, hashN_take n H _ _ hl, hashN_take n H _ _ hl]

theorem shaWords_small (xs ys : List UInt8) (h : xs.length % 64 + ys.length < 64) : shaWords (xs ++ ys) = shaWords xs ∧ shaRem (xs ++ ys) = shaRem xs ++ ys := by
  have e : (xs ++ ys).length / 64 = xs.length / 64 := by rw [List.length_append]; omega
  unfold shaWords shaRem
  rw [e]
  exact ⟨hashN_pre _ _ _ _ (by omega), by rw [List.drop_append_of_le_length (by omega)]⟩

theorem shaWords_fill (xs ys : List UInt8) (h : xs.length % 64 + ys.length = 64) : shaWords (xs ++ ys) = compress (shaWords xs) (shaRem xs ++ ys) ∧ shaRem (xs ++ ys) = [] := by
  have e : (xs ++ ys).length / 64 = xs.length / 64 + 1 := by rw [List.length_append]; omega
  have el : (xs ++ ys).length = 64 * (xs.length / 64 + 1) := by rw [List.length_append]; omega
  have ed : (xs ++ ys).drop (64 * (xs.length / 64)) = shaRem xs ++ ys := by rw [List.drop_append_of_le_length (by omega)]; rfl
  constructor
  · unfold shaWords
    rw [e, hashN_succ, ed, hashN_pre _ _ _ _ (by omega), List.take_of_length_le]
    rw [List.length_append, shaRem_len]
    omega
  · unfold shaRem
    rw [e, List.drop_of_length_le (by omega)]

theorem sha_eq (x : List UInt8) : sha x = digest (shaWords (x ++ shaPad x.length)) := rfl

theorem shaPad_len (n : Nat) : (n + (shaPad n).length) % 64 = 0 := by
  simp only [shaPad, List.length_append, List.length_cons, List.length_replicate, List.length_nil]
  omega

theorem digest_len (H : List Nat) : (digest H).length = 4 * H.length := by
  induction H with
  | nil => rfl
  | cons x H ih =>
    have e : digest (x :: H) = [byteAt x 3, byteAt x 2, byteAt x 1, byteAt x 0] ++ digest H := rfl
    rw [e, List.length_append, ih, List.length_cons]
    simp
    omega

theorem sha_len (x : List UInt8) : (sha x).length = 32 := by
  rw [sha_eq, digest_len, (shaWords_ok _).1]

end Go.Proofs.YtnhagokkamobaaaDoor
