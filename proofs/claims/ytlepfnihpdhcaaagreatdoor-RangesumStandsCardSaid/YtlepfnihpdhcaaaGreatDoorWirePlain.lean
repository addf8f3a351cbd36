/- The encodings of layer 1 as plain lists of bytes. No program in sight. -/
import Derived.Test.YtlepfnihpdhcaaaGreatDoorBase
import Derived.Laws.BitsAllLaws
namespace Go.Proofs.YtlepfnihpdhcaaaGreatDoor

/-- The cells of bytes. -/
def B8 (bs : List UInt8) : List Value := bs.map fun b => Value.int .u8 (b.toNat : Int)

theorem B8_append (a b : List UInt8) : B8 (a ++ b) = B8 a ++ B8 b := by simp [B8]
theorem B8_length (a : List UInt8) : (B8 a).length = a.length := by simp [B8]
theorem B8_one (a : List UInt8) : ∀ u ∈ B8 a, u.oneCell' = true := by
  intro u hu
  obtain ⟨b, _, rfl⟩ := List.mem_map.1 hu
  rfl
theorem B8_get (a : List UInt8) (i : Nat) (b : UInt8) (h : a[i]? = some b) : (B8 a)[i]? = some (.int .u8 (b.toNat : Int)) := by simp [B8, h]

/-- A number in base 128, the least significant group first. -/
def num (n : Nat) : List UInt8 := if n < 128 then [UInt8.ofNat n] else UInt8.ofNat (n % 128 + 128) :: num (n / 128)
termination_by n

theorem num_small (n : Nat) (h : n < 128) : num n = [UInt8.ofNat n] := by rw [num, if_pos h]
theorem num_big (n : Nat) (h : ¬ n < 128) : num n = UInt8.ofNat (n % 128 + 128) :: num (n / 128) := by rw [num, if_neg h]

theorem num_length_pow (k : Nat) : ∀ n, n < 128 ^ (k + 1) → (num n).length ≤ k + 1 := by
  induction k with
  | zero => intro n h; rw [num_small n (by simpa using h)]; simp
  | succ k ih =>
    intro n h
    by_cases hn : n < 128
    · rw [num_small n hn]; simp
    · rw [num_big n hn, List.length_cons]
      have : n / 128 < 128 ^ (k + 1) := by
        rw [Nat.div_lt_iff_lt_mul (by omega)]
        rw [Nat.pow_succ] at h
        exact h
      have := ih _ this
      omega

theorem num_length (n : Nat) (h : n < 18446744073709551616) : (num n).length ≤ 10 := num_length_pow 9 n (by omega)

theorem or_128 : ∀ x < 256, x ||| 128 = x % 128 + 128 := by decide +kernel
theorem byte_or (m : Nat) : bits BinOp.or IntKind.u8 ((m : Int) % 256) 128 = ((UInt8.ofNat (m % 128 + 128)).toNat : Int) := by
  have h := u8_or_nat (m % 256) 128 (by omega) (by omega)
  rw [or_128 _ (by omega)] at h
  have e : ((m % 256 : Nat) : Int) = (m : Int) % 256 := by omega
  rw [e] at h
  rw [show ((128 : Nat) : Int) = 128 from rfl] at h
  rw [h]
  have : (UInt8.ofNat (m % 128 + 128)).toNat = m % 128 + 128 := by simp; omega
  rw [this]
  omega
theorem byte_low (m : Nat) (h : m < 256) : (m : Int) = ((UInt8.ofNat m).toNat : Int) := by
  have : (UInt8.ofNat m).toNat = m := by simp; omega
  rw [this]

/-- A number of 64 bits (behind a name: the numeral stops the walk). -/
def U64 (n : Nat) : Prop := n < 18446744073709551616

/-- The zigzag number of an int. -/
def zig (n : Int) : Nat := if n < 0 then ((-(n + 1)) * 2 + 1).toNat else (n * 2).toNat

theorem zig_lt (n : Int) (h0 : -9223372036854775808 ≤ n) (h1 : n ≤ 9223372036854775807) : zig n < 18446744073709551616 := by
  unfold zig
  split <;> omega

def Fit64 (n : Int) : Prop := -9223372036854775808 ≤ n ∧ n ≤ 9223372036854775807

theorem zig_len (n : Int) (h : Fit64 n) : (num (zig n)).length ≤ 10 := num_length _ (zig_lt n h.1 h.2)

end Go.Proofs.YtlepfnihpdhcaaaGreatDoor
namespace Go.Proofs.YtlepfnihpdhcaaaGreatDoor

def M32 : Nat := 4294967296
def shaK : List Nat := [
  0x428a2f98, 0x71374491, 0xb5c0fbcf, 0xe9b5dba5, 0x3956c25b, 0x59f111f1, 0x923f82a4, 0xab1c5ed5,
  0xd807aa98, 0x12835b01, 0x243185be, 0x550c7dc3, 0x72be5d74, 0x80deb1fe, 0x9bdc06a7, 0xc19bf174,
  0xe49b69c1, 0xefbe4786, 0x0fc19dc6, 0x240ca1cc, 0x2de92c6f, 0x4a7484aa, 0x5cb0a9dc, 0x76f988da,
  0x983e5152, 0xa831c66d, 0xb00327c8, 0xbf597fc7, 0xc6e00bf3, 0xd5a79147, 0x06ca6351, 0x14292967,
  0x27b70a85, 0x2e1b2138, 0x4d2c6dfc, 0x53380d13, 0x650a7354, 0x766a0abb, 0x81c2c92e, 0x92722c85,
  0xa2bfe8a1, 0xa81a664b, 0xc24b8b70, 0xc76c51a3, 0xd192e819, 0xd6990624, 0xf40e3585, 0x106aa070,
  0x19a4c116, 0x1e376c08, 0x2748774c, 0x34b0bcb5, 0x391c0cb3, 0x4ed8aa4a, 0x5b9cca4f, 0x682e6ff3,
  0x748f82ee, 0x78a5636f, 0x84c87814, 0x8cc70208, 0x90befffa, 0xa4506ceb, 0xbef9a3f7, 0xc67178f2]
def shaI : List Nat := [0x6a09e667, 0xbb67ae85, 0x3c6ef372, 0xa54ff53a, 0x510e527f, 0x9b05688c, 0x1f83d9ab, 0x5be0cd19]

def rotr (n x : Nat) : Nat := (x / 2 ^ n) ||| (x * 2 ^ (32 - n) % 4294967296)
def add32 (a b : Nat) : Nat := (a + b) % 4294967296
def sig0 (y : Nat) : Nat := rotr 7 y ^^^ rotr 18 y ^^^ (y / 2 ^ 3)
def sig1 (x : Nat) : Nat := rotr 17 x ^^^ rotr 19 x ^^^ (x / 2 ^ 10)
def bsig1 (e : Nat) : Nat := rotr 6 e ^^^ rotr 11 e ^^^ rotr 25 e
def bsig0 (a : Nat) : Nat := rotr 2 a ^^^ rotr 13 a ^^^ rotr 22 a
def chF (e f g : Nat) : Nat := (e &&& f) ^^^ ((4294967295 - e) &&& g)
def majF (a b c : Nat) : Nat := (a &&& b) ^^^ (a &&& c) ^^^ (b &&& c)

/-- A word out of four bytes. -/
def word (b : List UInt8) (t : Nat) : Nat :=
  ((b.getD (4 * t) 0).toNat * 2 ^ 24) ||| ((b.getD (4 * t + 1) 0).toNat * 2 ^ 16) ||| ((b.getD (4 * t + 2) 0).toNat * 2 ^ 8) ||| (b.getD (4 * t + 3) 0).toNat

/-- The next word of the schedule. -/
def nextW (l : List Nat) (t : Nat) : Nat := add32 (add32 (add32 (sig1 (l.getD (t - 2) 0)) (l.getD (t - 7) 0)) (sig0 (l.getD (t - 15) 0))) (l.getD (t - 16) 0)

def schedTo (b : List UInt8) : Nat → List Nat
  | 0 => []
  | t + 1 => let l := schedTo b t; l ++ [if t < 16 then word b t else nextW l t]

structure S8 where
  a : Nat
  b : Nat
  c : Nat
  d : Nat
  e : Nat
  f : Nat
  g : Nat
  h : Nat

def S8.t1 (s : S8) (k w : Nat) : Nat := add32 (add32 (add32 (add32 s.h (bsig1 s.e)) (chF s.e s.f s.g)) k) w
def S8.t2 (s : S8) : Nat := add32 (bsig0 s.a) (majF s.a s.b s.c)
def S8.rnd (s : S8) (k w : Nat) : S8 := ⟨add32 (s.t1 k w) s.t2, s.a, s.b, s.c, add32 s.d (s.t1 k w), s.e, s.f, s.g⟩

def rounds (W : List Nat) (s : S8) : Nat → S8
  | 0 => s
  | t + 1 => (rounds W s t).rnd (shaK.getD t 0) (W.getD t 0)

def S8.of (l : List Nat) : S8 := ⟨l.getD 0 0, l.getD 1 0, l.getD 2 0, l.getD 3 0, l.getD 4 0, l.getD 5 0, l.getD 6 0, l.getD 7 0⟩
def S8.list (s : S8) : List Nat := [s.a, s.b, s.c, s.d, s.e, s.f, s.g, s.h]

def compress (H : List Nat) (b : List UInt8) : List Nat := List.zipWith add32 H (rounds (schedTo b 64) (S8.of H) 64).list

/-- The words behind n blocks. -/
def hashN : Nat → List Nat → List UInt8 → List Nat
  | 0, H, _ => H
  | n + 1, H, b => hashN n (compress H (b.take 64)) (b.drop 64)

def byteAt (w k : Nat) : UInt8 := UInt8.ofNat (w / 2 ^ (8 * k) % 256)
def digest (H : List Nat) : List UInt8 := H.flatMap fun w => [byteAt w 3, byteAt w 2, byteAt w 1, byteAt w 0]

def shaPad (n : Nat) : List UInt8 := 128 :: List.replicate ((119 - n % 64) % 64) 0 ++ [byteAt (n * 8) 7, byteAt (n * 8) 6, byteAt (n * 8) 5, byteAt (n * 8) 4, byteAt (n * 8) 3, byteAt (n * 8) 2, byteAt (n * 8) 1, byteAt (n * 8) 0]
def sha (x : List UInt8) : List UInt8 := digest (hashN ((x ++ shaPad x.length).length / 64) shaI (x ++ shaPad x.length))

theorem sha_empty : sha [] = [0xe3, 0xb0, 0xc4, 0x42, 0x98, 0xfc, 0x1c, 0x14, 0x9a, 0xfb, 0xf4, 0xc8, 0x99, 0x6f, 0xb9, 0x24, 0x27, 0xae, 0x41, 0xe4, 0x64, 0x9b, 0x93, 0x4c, 0xa4, 0x95, 0x99, 0x1b, 0x78, 0x52, 0xb8, 0x55] := by decide +kernel

end Go.Proofs.YtlepfnihpdhcaaaGreatDoor
namespace Go.Proofs.YtlepfnihpdhcaaaGreatDoor

/-- A word. -/
def W32 (n : Nat) : Prop := n < 4294967296

theorem W32.add (a b : Nat) : W32 (add32 a b) := Nat.mod_lt _ (by decide)
theorem W32.xor {a b : Nat} (ha : W32 a) (hb : W32 b) : W32 (a ^^^ b) := Nat.xor_lt_two_pow (n := 32) ha hb
theorem W32.or {a b : Nat} (ha : W32 a) (hb : W32 b) : W32 (a ||| b) := Nat.or_lt_two_pow (n := 32) ha hb
theorem W32.and {a b : Nat} (hb : W32 b) : W32 (a &&& b) := Nat.lt_of_le_of_lt Nat.and_le_right hb
theorem W32.div {a : Nat} (ha : W32 a) (k : Nat) : W32 (a / k) := Nat.lt_of_le_of_lt (Nat.div_le_self _ _) ha
theorem W32.not (a : Nat) : W32 (4294967295 - a) := by unfold W32; omega
theorem W32.rotr {a : Nat} (ha : W32 a) (n : Nat) : W32 (rotr n a) := (ha.div _).or (Nat.mod_lt _ (by decide))
theorem W32.sig0 {a : Nat} (ha : W32 a) : W32 (sig0 a) := ((ha.rotr 7).xor (ha.rotr 18)).xor (ha.div _)
theorem W32.sig1 {a : Nat} (ha : W32 a) : W32 (sig1 a) := ((ha.rotr 17).xor (ha.rotr 19)).xor (ha.div _)
theorem W32.bsig0 {a : Nat} (ha : W32 a) : W32 (bsig0 a) := ((ha.rotr 2).xor (ha.rotr 13)).xor (ha.rotr 22)
theorem W32.bsig1 {a : Nat} (ha : W32 a) : W32 (bsig1 a) := ((ha.rotr 6).xor (ha.rotr 11)).xor (ha.rotr 25)
theorem W32.ch {e f g : Nat} (hf : W32 f) (hg : W32 g) : W32 (chF e f g) := (W32.and hf).xor (W32.and hg)
theorem W32.maj {a b c : Nat} (hb : W32 b) (hc : W32 c) : W32 (majF a b c) := ((W32.and hb).xor (W32.and hc)).xor (W32.and hc)

theorem byte_w32 (b : UInt8) (k : Nat) (hk : k ≤ 24) : W32 (b.toNat * 2 ^ k) := by
  have h1 := UInt8.toNat_lt b
  have h2 : 2 ^ k ≤ 2 ^ 24 := Nat.pow_le_pow_right (by decide) hk
  have h3 : b.toNat * 2 ^ k ≤ 255 * 2 ^ 24 := Nat.mul_le_mul (by omega) h2
  unfold W32
  omega

theorem W32.word (b : List UInt8) (t : Nat) : W32 (word b t) := by
  have h0 := UInt8.toNat_lt (b.getD (4 * t + 3) 0)
  exact (((byte_w32 _ 24 (by omega)).or (byte_w32 _ 16 (by omega))).or (byte_w32 _ 8 (by omega))).or (by unfold W32; omega)

theorem W32.sched (b : List UInt8) : ∀ t, ∀ x ∈ schedTo b t, W32 x
  | 0, x, hx => by cases hx
  | t + 1, x, hx => by
    simp only [schedTo] at hx
    rcases List.mem_append.1 hx with h | h
    · exact W32.sched b t x h
    · simp only [List.mem_cons, List.not_mem_nil, or_false] at h
      rw [h]
      split
      · exact W32.word b t
      · exact W32.add _ _

theorem sched_len (b : List UInt8) : ∀ t, (schedTo b t).length = t
  | 0 => rfl
  | t + 1 => by simp only [schedTo, List.length_append, List.length_cons, List.length_nil, sched_len b t]

theorem sched_get (b : List UInt8) : ∀ (n t : Nat), t < n → (schedTo b n)[t]? = some (if t < 16 then word b t else nextW (schedTo b t) t)
  | 0, t, h => by omega
  | n + 1, t, h => by
    simp only [schedTo]
    rcases (by omega : t < n ∨ t = n) with h' | rfl
    · rw [List.getElem?_append_left (by rw [sched_len]; exact h'), sched_get b n t h']
    · rw [List.getElem?_append_right (by rw [sched_len]; exact Nat.le_refl _), sched_len]
      simp

theorem getD_w32 {l : List Nat} (h : ∀ x ∈ l, W32 x) (i : Nat) : W32 (l.getD i 0) := by
  rw [List.getD_eq_getElem?_getD]
  cases hg : l[i]? with
  | none => show (0 : Nat) < 4294967296; decide
  | some x => exact h x (List.mem_of_getElem? hg)

theorem shaK_w32 : ∀ x ∈ shaK, W32 x := by
  have : (shaK.all fun x => decide (x < 4294967296)) = true := by decide +kernel
  intro x hx
  have := List.all_eq_true.1 this x hx
  simpa [W32] using this
theorem shaI_w32 : ∀ x ∈ shaI, W32 x := by
  have : (shaI.all fun x => decide (x < 4294967296)) = true := by decide +kernel
  intro x hx
  have := List.all_eq_true.1 this x hx
  simpa [W32] using this

structure S8.Ok (s : S8) : Prop where
  a : W32 s.a
  b : W32 s.b
  c : W32 s.c
  d : W32 s.d
  e : W32 s.e
  f : W32 s.f
  g : W32 s.g
  h : W32 s.h

theorem S8.Ok.rnd {s : S8} (h : s.Ok) (k w : Nat) : (s.rnd k w).Ok := ⟨W32.add _ _, h.a, h.b, h.c, W32.add _ _, h.e, h.f, h.g⟩
theorem S8.Ok.rounds {s : S8} (h : s.Ok) (W : List Nat) : ∀ t, (rounds W s t).Ok
  | 0 => h
  | t + 1 => (S8.Ok.rounds h W t).rnd _ _
theorem S8.ok_of {l : List Nat} (h : ∀ x ∈ l, W32 x) : (S8.of l).Ok := ⟨getD_w32 h 0, getD_w32 h 1, getD_w32 h 2, getD_w32 h 3, getD_w32 h 4, getD_w32 h 5, getD_w32 h 6, getD_w32 h 7⟩

theorem compress_w32 (H : List Nat) (b : List UInt8) : ∀ x ∈ compress H b, W32 x := by
  intro x hx
  unfold compress at hx
  obtain ⟨i, hi⟩ := List.mem_iff_getElem?.1 hx
  rw [List.getElem?_zipWith] at hi
  split at hi
  · simp only [Option.some.injEq] at hi
    rw [← hi]
    exact W32.add _ _
  · cases hi
theorem compress_len (H : List Nat) (b : List UInt8) (h : H.length = 8) : (compress H b).length = 8 := by
  unfold compress
  rw [List.length_zipWith, h]
  rfl

theorem hashN_ok : ∀ (n : Nat) (H : List Nat) (b : List UInt8), H.length = 8 → (∀ x ∈ H, W32 x) → (hashN n H b).length = 8 ∧ ∀ x ∈ hashN n H b, W32 x
  | 0, _, _, h1, h2 => ⟨h1, h2⟩
  | n + 1, H, _, h1, _ => hashN_ok n _ _ (compress_len H _ h1) (compress_w32 H _)

theorem hashN_succ : ∀ (n : Nat) (H : List Nat) (b : List UInt8), hashN (n + 1) H b = compress (hashN n H b) ((b.drop (64 * n)).take 64)
  | 0, H, b => by simp [hashN]
  | n + 1, H, b => by
    have ih := hashN_succ n (compress H (b.take 64)) (b.drop 64)
    rw [hashN, ih, List.drop_drop]
    rw [show 64 + 64 * n = 64 * (n + 1) by omega]
    rfl

/-- Only the first blocks count. -/
theorem hashN_take : ∀ (n : Nat) (H : List Nat) (a b : List UInt8), a.length = 64 * n → hashN n H (a ++ b) = hashN n H a
  | 0, _, _, _, _ => rfl
  | n + 1, H, a, b, h => by
    rw [hashN, hashN, List.take_append_of_le_length (by omega), List.drop_append_of_le_length (by omega)]
    exact hashN_take n _ _ _ (by rw [List.length_drop]; omega)

/-! How the walk spells it. -/
theorem u32_add (a b : Nat) : IntKind.u32.wrap ((a : Int) + (b : Int)) = ((add32 a b : Nat) : Int) := by
  rw [IntKind.wrap_u32']
  unfold add32
  omega

end Go.Proofs.YtlepfnihpdhcaaaGreatDoor
namespace Go.Proofs.YtlepfnihpdhcaaaGreatDoor

def shaWords (xs : List UInt8) : List Nat := hashN (xs.length / 64) shaI xs
def shaRem (xs : List UInt8) : List UInt8 := xs.drop (64 * (xs.length / 64))

theorem shaRem_len (xs : List UInt8) : (shaRem xs).length = xs.length % 64 := by
  unfold shaRem
  rw [List.length_drop]
  omega

theorem shaWords_ok (xs : List UInt8) : (shaWords xs).length = 8 ∧ ∀ x ∈ shaWords xs, W32 x := hashN_ok _ _ _ rfl shaI_w32

theorem hashN_pre (n : Nat) (H : List Nat) (a b : List UInt8) (h : 64 * n ≤ a.length) : hashN n H (a ++ b) = hashN n H a := by
  have e : a = a.take (64 * n) ++ a.drop (64 * n) := (List.take_append_drop _ _).symm
  have hl : (a.take (64 * n)).length = 64 * n := by rw [List.length_take]; omega
  rw [e, List.append_assoc, hashN_take n H _ _ hl, hashN_take n H _ _ hl]

theorem shaWords_small (xs ys : List UInt8) (h : xs.length % 64 + ys.length < 64) : shaWords (xs ++ ys) = shaWords xs ∧ shaRem (xs ++ ys) = shaRem xs ++ ys := by
  have e : (xs ++ ys).length / 64 = xs.length / 64 := by rw [List.length_append]; omega
  unfold shaWords shaRem
  rw [e]
  exact ⟨hashN_pre _ _ _ _ (by omega), by rw [List.drop_append_of_le_length (by omega)]⟩

theorem shaWords_fill (xs ys : List UInt8) (h : xs.length % 64 + ys.length = 64) : shaWords (xs ++ ys) = compress (shaWords xs) (shaRem xs ++ ys) ∧ shaRem (xs ++ ys) = [] := by
  have e : (xs ++ ys).length / 64 = xs.length / 64 + 1 := by rw [List.length_append]; omega
  have el : (xs ++ ys).length = 64 * (xs.length / 64 + 1) := by rw [List.length_append]; omega
  have ed : (xs ++ ys).drop (64 * (xs.length / 64)) = shaRem xs ++ ys := by rw [List.drop_append_of_le_length (by omega)]; rfl
  constructor
  · unfold shaWords
    rw [e, hashN_succ, ed, hashN_pre _ _ _ _ (by omega), List.take_of_length_le]
    rw [List.length_append, shaRem_len]
    omega
  · unfold shaRem
    rw [e, List.drop_of_length_le (by omega)]

theorem sha_eq (x : List UInt8) : sha x = digest (shaWords (x ++ shaPad x.length)) := rfl

theorem shaPad_len (n : Nat) : (n + (shaPad n).length) % 64 = 0 := by
  simp only [shaPad, List.length_append, List.length_cons, List.length_replicate, List.length_nil]
  omega

theorem digest_len (H : List Nat) : (digest H).length = 4 * H.length := by
  induction H with
  | nil => rfl
  | cons x H ih =>
    have e : digest (x :: H) = [byteAt x 3, byteAt x 2, byteAt x 1, byteAt x 0] ++ digest H := rfl
    rw [e, List.length_append, ih, List.length_cons]
    simp
    omega

theorem sha_len (x : List UInt8) : (sha x).length = 32 := by
  rw [sha_eq, digest_len, (shaWords_ok _).1]

end Go.Proofs.YtlepfnihpdhcaaaGreatDoor
namespace Go.Proofs.YtlepfnihpdhcaaaGreatDoor

/-- The groups of the first k bytes. -/
def accN : List UInt8 → Nat → Nat
  | _, 0 => 0
  | [], _ => 0
  | b :: l, k + 1 => b.toNat % 128 + 128 * accN l k

theorem accN_succ : ∀ (k : Nat) (l : List UInt8) (b : UInt8), l[k]? = some b → accN l (k + 1) = accN l k + (b.toNat % 128) * 128 ^ k
  | 0, b' :: l, b, h => by
    simp at h
    subst h
    simp [accN]
  | k + 1, b' :: l, b, h => by
    simp at h
    have ih := accN_succ k l b h
    rw [accN, ih, accN, Nat.pow_succ, Nat.mul_add]
    have : 128 * (b.toNat % 128 * 128 ^ k) = b.toNat % 128 * (128 ^ k * 128) := by
      rw [Nat.mul_comm (128 ^ k) 128, ← Nat.mul_assoc, ← Nat.mul_assoc, Nat.mul_comm 128]
    omega
  | _, [], _, h => by simp at h

theorem accN_lt : ∀ (k : Nat) (l : List UInt8), accN l k < 128 ^ k
  | 0, _ => by simp [accN]
  | k + 1, [] => by simp only [accN]; exact Nat.pow_pos (by omega)
  | k + 1, b :: l => by
    have ih := accN_lt k l
    rw [accN, Nat.pow_succ]
    have := Nat.mod_lt b.toNat (show 128 > 0 by omega)
    omega

/-- How many bytes of at least 128 lie ahead. -/
def ahead : List UInt8 → Nat
  | [] => 0
  | b :: l => if b.toNat < 128 then 0 else ahead l + 1

theorem ahead_drop : ∀ (k : Nat) (l : List UInt8), k ≤ l.length → (∀ j b, j < k → l[j]? = some b → 128 ≤ b.toNat) → ahead l = k + ahead (l.drop k)
  | 0, l, _, _ => by simp
  | k + 1, [], h, _ => by simp at h
  | k + 1, b :: l, h, hp => by
    have h0 := hp 0 b (by omega) rfl
    have ih := ahead_drop k l (by simpa using h) (fun j c hj hc => hp (j + 1) c (by omega) (by simpa using hc))
    rw [ahead, if_neg (by omega), ih, List.drop_succ_cons]
    omega

theorem ahead_low (l : List UInt8) (b : UInt8) (h : l[0]? = some b) (hb : b.toNat < 128) : ahead l = 0 := by
  match l, h with
  | c :: l, h =>
    simp at h
    subst h
    rw [ahead, if_pos hb]

/-- Read a number: its value and the offset behind it. -/
def rdNum (D : List UInt8) (off : Nat) : Option (Nat × Nat) :=
  match (D.drop off)[ahead (D.drop off)]? with
  | none => none
  | some b => if ahead (D.drop off) ≤ 9 ∧ ¬ (0 < ahead (D.drop off) ∧ b.toNat = 0) ∧ ¬ (ahead (D.drop off) = 9 ∧ 1 < b.toNat) then some (accN (D.drop off) (ahead (D.drop off) + 1), off + ahead (D.drop off) + 1) else none

theorem rdNum_at (D : List UInt8) (off k : Nat) (x : UInt8) (hpre : ∀ j b, j < k → D[off + j]? = some b → 128 ≤ b.toNat) (hx : D[off + k]? = some x) (hlt : x.toNat < 128) :
    rdNum D off = if k ≤ 9 ∧ ¬ (0 < k ∧ x.toNat = 0) ∧ ¬ (k = 9 ∧ 1 < x.toNat) then some (accN (D.drop off) (k + 1), off + k + 1) else none := by
  have hl : off + k < D.length := (List.getElem?_eq_some_iff.1 hx).1
  have ha : ahead (D.drop off) = k := by
    rw [ahead_drop k (D.drop off) (by simp; omega) (fun j b hj hb => hpre j b hj (by rwa [List.getElem?_drop] at hb))]
    rw [ahead_low _ x (by rw [List.drop_drop, List.getElem?_drop, Nat.add_zero]; exact hx) hlt]
    rfl
  unfold rdNum
  rw [ha, List.getElem?_drop, hx]

theorem rdNum_end (D : List UInt8) (off k : Nat) (hpre : ∀ j b, j < k → D[off + j]? = some b → 128 ≤ b.toNat) (h : off + k = D.length) : rdNum D off = none := by
  have ha : ahead (D.drop off) = k := by
    rw [ahead_drop k (D.drop off) (by simp; omega) (fun j b hj hb => hpre j b hj (by rwa [List.getElem?_drop] at hb))]
    rw [List.drop_drop, List.drop_of_length_le (by omega)]
    rfl
  unfold rdNum
  rw [ha, List.getElem?_drop, List.getElem?_eq_none (by omega)]

theorem rdNum_long (D : List UInt8) (off : Nat) (hpre : ∀ j b, j < 10 → D[off + j]? = some b → 128 ≤ b.toNat) (h : off + 10 ≤ D.length) : rdNum D off = none := by
  have ha : 10 ≤ ahead (D.drop off) := by
    rw [ahead_drop 10 (D.drop off) (by simp; omega) (fun j b hj hb => hpre j b hj (by rwa [List.getElem?_drop] at hb))]
    omega
  unfold rdNum
  split
  · rfl
  · rw [if_neg (by omega)]

theorem num_of (k : Nat) : ∀ l : List UInt8, (∀ j b, j < k → l[j]? = some b → 128 ≤ b.toNat) → (∃ b, l[k]? = some b ∧ b.toNat < 128 ∧ ¬ (0 < k ∧ b.toNat = 0)) →
    l = num (accN l (k + 1)) ++ l.drop (k + 1) ∧ (num (accN l (k + 1))).length = k + 1 := by
  induction k with
  | zero =>
    intro l _ h
    obtain ⟨b, hb, hlt, _⟩ := h
    match l, hb with
    | b' :: l, hb =>
      simp at hb
      subst hb
      have e : accN (b' :: l) 1 = b'.toNat := by simp [accN]; omega
      rw [e, num_small _ hlt]
      simp
  | succ k ih =>
    intro l h1 h2
    obtain ⟨b, hb, hlt, hz⟩ := h2
    match l, hb with
    | b' :: l, hb =>
      simp at hb
      have h0 : 128 ≤ b'.toNat := h1 0 b' (by omega) rfl
      have hb'lt := UInt8.toNat_lt b'
      obtain ⟨ih1, ih2⟩ := ih l (fun j c hj hc => h1 (j + 1) c (by omega) (by simpa using hc)) ⟨b, hb, hlt, fun hh => hz ⟨by omega, hh.2⟩⟩
      -- the rest is not zero
      have hpos : 0 < accN l (k + 1) := by
        rw [accN_succ k l b hb]
        have hbp : 0 < b.toNat := by
          rcases Nat.eq_zero_or_pos b.toNat with h | h
          · exact absurd ⟨by omega, h⟩ hz
          · exact h
        have : b.toNat % 128 = b.toNat := Nat.mod_eq_of_lt hlt
        rw [this]
        have := Nat.mul_pos hbp (Nat.pow_pos (n := k) (show 0 < 128 by omega))
        omega
      have e : accN (b' :: l) (k + 1 + 1) = b'.toNat % 128 + 128 * accN l (k + 1) := rfl
      rw [e, num_big _ (by omega)]
      have e1 : (b'.toNat % 128 + 128 * accN l (k + 1)) % 128 + 128 = b'.toNat := by omega
      have e2 : (b'.toNat % 128 + 128 * accN l (k + 1)) / 128 = accN l (k + 1) := by omega
      rw [e1, e2]
      simp only [List.cons_append, List.length_cons, List.drop_succ_cons]
      refine ⟨?_, by omega⟩
      rw [← ih1]
      simp

theorem u8_toNat (m : Nat) (h : m < 256) : (UInt8.ofNat m).toNat = m := by simp; omega

theorem num_get (n : Nat) : ∀ (j : Nat) (b : UInt8), (num n)[j]? = some b → (j + 1 < (num n).length → 128 ≤ b.toNat) ∧ (j + 1 = (num n).length → b.toNat < 128 ∧ (0 < j → b.toNat ≠ 0)) := by
  induction n using Nat.strongRecOn with
  | _ n ih =>
    intro j b hb
    by_cases hn : n < 128
    · rw [num_small n hn] at hb ⊢
      cases j with
      | zero =>
        simp at hb
        subst hb
        refine ⟨fun h => by simp at h, fun _ => ⟨by simp; omega, fun h => by omega⟩⟩
      | succ j => simp at hb
    · rw [num_big n hn] at hb ⊢
      have hp := Nat.div_lt_self (show 0 < n by omega) (show 1 < 128 by omega)
      have hpos : 0 < (num (n / 128)).length := by
        by_cases h : n / 128 < 128
        · rw [num_small _ h]; simp
        · rw [num_big _ h]; simp
      cases j with
      | zero =>
        simp only [List.getElem?_cons_zero, Option.some.injEq] at hb
        subst hb
        refine ⟨fun _ => by rw [u8_toNat _ (by omega)]; omega, fun h => by simp only [List.length_cons] at h; omega⟩
      | succ j =>
        simp at hb
        obtain ⟨h1, h2⟩ := ih (n / 128) hp j b hb
        simp only [List.length_cons]
        refine ⟨fun h => h1 (by omega), fun h => ⟨(h2 (by omega)).1, fun _ => ?_⟩⟩
        cases j with
        | zero =>
          -- the single byte of n / 128, which is not zero
          have hl : (num (n / 128)).length = 1 := by omega
          by_cases hs : n / 128 < 128
          · rw [num_small _ hs] at hb
            simp at hb
            subst hb
            have : 0 < n / 128 := Nat.div_pos (by omega) (by omega)
            simp
            omega
          · rw [num_big _ hs] at hl
            simp at hl
            have : 0 < (num (n / 128 / 128)).length := by
              by_cases h : n / 128 / 128 < 128
              · rw [num_small _ h]; simp
              · rw [num_big _ h]; simp
            rw [hl] at this
            simp at this
        | succ j => exact (h2 (by omega)).2 (by omega)

/-- One more group. -/
def orG (m : Nat) (x : UInt8) (k : Nat) : Int := bits BinOp.or IntKind.u64 (m : Int) (IntKind.u64.wrap (IntKind.u64.wrap (bits BinOp.and IntKind.u8 (x.toNat : Int) 127) * 2 ^ (7 * k)))

theorem and_127 (x : UInt8) : bits BinOp.and IntKind.u8 (x.toNat : Int) 127 = ((x.toNat % 128 : Nat) : Int) := by
  have h := u8_and_nat x.toNat 127 (UInt8.toNat_lt x) (by omega)
  rw [nat_mask7] at h
  exact h

theorem orG_nat (m : Nat) (x : UInt8) (k : Nat) (hm : U64 m) : ∃ m' : Nat, orG m x k = (m' : Int) ∧ U64 m' ∧ (m < 128 ^ k → x.toNat % 128 * 128 ^ k < 18446744073709551616 → m' = m + x.toNat % 128 * 128 ^ k) := by
  unfold U64 at hm
  unfold orG
  rw [and_127]
  have hx := Nat.mod_lt x.toNat (show 128 > 0 by omega)
  have e1 : IntKind.u64.wrap ((x.toNat % 128 : Nat) : Int) = ((x.toNat % 128 : Nat) : Int) := IntWalk.u64_in _ (by omega)
  rw [e1]
  have e2 : ((x.toNat % 128 : Nat) : Int) * 2 ^ (7 * k) = ((x.toNat % 128 * 128 ^ k : Nat) : Int) := by
    rw [show (128 : Nat) = 2 ^ 7 from rfl, ← Nat.pow_mul]
    push_cast
    rfl
  rw [e2, IntKind.wrap_u64]
  have e3 : ((x.toNat % 128 * 128 ^ k : Nat) : Int) % 18446744073709551616 = ((x.toNat % 128 * 128 ^ k % 18446744073709551616 : Nat) : Int) := by omega
  rw [e3, u64_or_nat m _ hm (by omega)]
  refine ⟨_, rfl, ?_, ?_⟩
  · exact Nat.or_lt_two_pow (n := 64) (by omega) (by omega)
  · intro h1 h2
    rw [Nat.mod_eq_of_lt h2, Nat.or_comm, nat_join (7 * k) _ m]
    · omega
    · rw [show (128 : Nat) = 2 ^ 7 from rfl, ← Nat.pow_mul]
      exact Nat.mul_mod_left _ _
    · rw [Nat.pow_mul]; exact h1

end Go.Proofs.YtlepfnihpdhcaaaGreatDoor
