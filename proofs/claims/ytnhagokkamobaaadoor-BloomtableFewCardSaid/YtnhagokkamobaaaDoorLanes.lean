/- SHA-256 of 65536 messages of three bytes at once, in lanes: what the lanes hold is SHA-256 of each. No program in sight. -/
import Derived.Test.YtnhagokkamobaaaDoorPack
import Derived.Test.YtnhagokkamobaaaDoorShaPlain
namespace Go.Proofs.YtnhagokkamobaaaDoor

/-! ### More laws of lanes -/
theorem pack_lt : ∀ (n : Nat) {f : Nat → Nat}, (∀ i, i < n → f i < 2 ^ 64) → pack n f < 2 ^ (64 * n)
  | 0, _, _ => by simp [pack]
  | n + 1, f, h => by
    have ih := pack_lt n (f := fun i => f (i + 1)) (fun i hi => h (i + 1) (by omega))
    have h0 := h 0 (by omega)
    unfold pack
    rw [show 64 * (n + 1) = 64 + 64 * n by omega, Nat.pow_add]
    have e : (18446744073709551616 : Nat) = 2 ^ 64 := by decide
    rw [e]
    have h1 : 2 ^ 64 * (pack n fun i => f (i + 1)) + 2 ^ 64 ≤ 2 ^ 64 * 2 ^ (64 * n) := by
      rw [← Nat.mul_succ]; exact Nat.mul_le_mul_left _ ih
    omega
theorem pack_append (m : Nat) : ∀ (n : Nat) (f : Nat → Nat), pack (n + m) f = pack n f + 2 ^ (64 * n) * pack m (fun i => f (n + i))
  | 0, f => by simp [pack]
  | n + 1, f => by
    have ih := pack_append m n (fun i => f (i + 1))
    have e0 : pack m (fun i => f (n + 1 + i)) = pack m (fun i => f (n + i + 1)) := pack_congr m fun i _ => by congr 1; omega
    have e : (18446744073709551616 : Nat) = 2 ^ 64 := by decide
    rw [show n + 1 + m = (n + m) + 1 by omega, e0]
    show f 0 + 18446744073709551616 * pack (n + m) (fun i => f (i + 1)) = (f 0 + 18446744073709551616 * pack n (fun i => f (i + 1))) + _
    rw [ih, show 64 * (n + 1) = 64 + 64 * n by omega, Nat.pow_add, e, Nat.mul_add, Nat.mul_assoc, Nat.add_assoc]
theorem pack_sub (n : Nat) {f g : Nat → Nat} (h : ∀ i, i < n → g i ≤ f i) : pack n f - pack n g = pack n fun i => f i - g i := by
  have h1 := pack_add n (fun i => f i - g i) g
  have h2 : pack n (fun i => f i - g i + g i) = pack n f := pack_congr n fun i hi => by have := h i hi; omega
  rw [h2] at h1
  omega

/-- X holds the words f. -/
structure Lan (n : Nat) (X : Nat) (f : Nat → Nat) : Prop where
  eq : X = pack n f
  lt : ∀ i, i < n → f i < 4294967296

theorem and_mask (a : Nat) : a &&& 4294967295 = a % 4294967296 := Nat.and_two_pow_sub_one_eq_mod a 32

theorem pack_mask (n : Nat) {f : Nat → Nat} (h : ∀ i, i < n → f i < 2 ^ 64) : pack n f &&& pack n (fun _ => 4294967295) = pack n fun i => f i % 4294967296 := by
  rw [pack_and n h (fun _ _ => by decide)]
  exact pack_congr n fun i _ => and_mask _

theorem shr_mask (r : Nat) (hr : r ≤ 32) : ∀ (n : Nat) {f : Nat → Nat}, (∀ i, i < n → f i < 2 ^ 64) → (pack n f / 2 ^ r) &&& pack n (fun _ => 4294967295) = pack n fun i => f i / 2 ^ r % 4294967296
  | 0, _, _ => by simp [pack]
  | n + 1, f, h => by
    have ih := shr_mask r hr n (f := fun i => f (i + 1)) (fun i hi => h (i + 1) (by omega))
    have h0 := h 0 (by omega)
    show (f 0 + 18446744073709551616 * pack n fun i => f (i + 1)) / 2 ^ r &&& (4294967295 + 18446744073709551616 * pack n fun _ => 4294967295) = f 0 / 2 ^ r % 4294967296 + 18446744073709551616 * pack n fun i => f (i + 1) / 2 ^ r % 4294967296
    rw [← ih]
    generalize (pack n fun i => f (i + 1)) = b
    have e : (18446744073709551616 : Nat) = 2 ^ 64 := by decide
    have h1 : (18446744073709551616 : Nat) * b = 2 ^ r * (2 ^ (64 - r) * b) := by rw [e, ← Nat.mul_assoc, ← Nat.pow_add]; congr 2; omega
    have h2 : (2 : Nat) ^ (64 - r) * b = 2 ^ (64 - r) * (b % 2 ^ r) + 2 ^ 64 * (b / 2 ^ r) := by
      conv => lhs; rw [← Nat.mod_add_div b (2 ^ r)]
      rw [Nat.mul_add, ← Nat.mul_assoc, ← Nat.pow_add]
      congr 3
      omega
    have h3 : (f 0 + 18446744073709551616 * b) / 2 ^ r = (f 0 / 2 ^ r + 2 ^ (64 - r) * (b % 2 ^ r)) + 2 ^ 64 * (b / 2 ^ r) := by
      rw [h1, Nat.add_mul_div_left _ _ (Nat.two_pow_pos r), h2, Nat.add_assoc]
    have h4 : f 0 / 2 ^ r + 2 ^ (64 - r) * (b % 2 ^ r) < 2 ^ 64 := by
      have a1 : f 0 / 2 ^ r < 2 ^ (64 - r) := by
        rw [Nat.div_lt_iff_lt_mul (Nat.two_pow_pos r), ← Nat.pow_add, show 64 - r + r = 64 by omega]; exact h0
      have a2 : b % 2 ^ r + 1 ≤ 2 ^ r := Nat.mod_lt _ (Nat.two_pow_pos r)
      have a3 : 2 ^ (64 - r) * (b % 2 ^ r) + 2 ^ (64 - r) ≤ 2 ^ (64 - r) * 2 ^ r := by rw [← Nat.mul_succ]; exact Nat.mul_le_mul_left _ a2
      rw [← Nat.pow_add, show 64 - r + r = 64 by omega] at a3
      omega
    have h5 : (f 0 / 2 ^ r + 2 ^ (64 - r) * (b % 2 ^ r)) % 4294967296 = f 0 / 2 ^ r % 4294967296 := by
      have : (2 : Nat) ^ (64 - r) * (b % 2 ^ r) = 4294967296 * (2 ^ (32 - r) * (b % 2 ^ r)) := by
        rw [← Nat.mul_assoc]
        congr 1
        rw [show (4294967296 : Nat) = 2 ^ 32 by decide, ← Nat.pow_add]
        congr 1
        omega
      rw [this, Nat.add_mul_mod_self_left]
    rw [h3, e, lane_and _ _ _ _ h4 (by decide), and_mask, h5]

/-- A word that stands twice, shifted. -/
theorem rotr_twice {x r : Nat} (hx : x < 4294967296) (h0 : 0 < r) (hr : r < 32) : x * 4294967297 / 2 ^ r % 4294967296 = rotr r x := by
  have e1 : x * 4294967297 = 2 ^ r * (2 ^ (32 - r) * x) + x := by
    rw [← Nat.mul_assoc, ← Nat.pow_add, show r + (32 - r) = 32 by omega]
    omega
  have h1 : x / 2 ^ r < 2 ^ (32 - r) := by
    rw [Nat.div_lt_iff_lt_mul (Nat.two_pow_pos r), ← Nat.pow_add, show 32 - r + r = 32 by omega]; exact hx
  have e2 : (2 : Nat) ^ 32 = 2 ^ (32 - r) * 2 ^ r := by rw [← Nat.pow_add]; congr 1; omega
  have e3 : 2 ^ (32 - r) * x % 4294967296 = 2 ^ (32 - r) * (x % 2 ^ r) := by
    rw [show (4294967296 : Nat) = 2 ^ 32 by decide, e2, Nat.mul_mod_mul_left]
  have h2 : 2 ^ (32 - r) * (x % 2 ^ r) + 2 ^ (32 - r) ≤ 4294967296 := by
    have a2 : x % 2 ^ r + 1 ≤ 2 ^ r := Nat.mod_lt _ (Nat.two_pow_pos r)
    have a3 : 2 ^ (32 - r) * (x % 2 ^ r + 1) ≤ 2 ^ (32 - r) * 2 ^ r := Nat.mul_le_mul_left _ a2
    rw [← e2, Nat.mul_succ] at a3
    exact a3
  unfold rotr
  rw [e1, Nat.add_comm, Nat.add_mul_div_left _ _ (Nat.two_pow_pos r), Nat.add_mod, e3, Nat.mul_comm x, e3, Nat.mod_eq_of_lt (show x / 2 ^ r < 4294967296 by omega), Nat.mod_eq_of_lt (by omega), Nat.or_comm, ← Nat.two_pow_add_eq_or_of_lt h1, Nat.add_comm]

section
variable {n X Y Z : Nat} {f g k : Nat → Nat}
def msk (o : Nat) : Nat := 4294967295 * o
theorem msk_eq (n : Nat) : msk (pack n fun _ => 1) = pack n fun _ => 4294967295 := by unfold msk; rw [pack_mul]

def shr2 (M r X : Nat) : Nat := (X / 2 ^ r) &&& M

theorem Lan.w64 (h : Lan n X f) : ∀ i, i < n → f i < 2 ^ 64 := fun i hi => Nat.lt_trans (h.lt i hi) (by decide)
theorem Lan.shr (h : Lan n X f) (r : Nat) (hr : r < 32) : Lan n (shr2 (pack n fun _ => 4294967295) r X) (fun i => f i / 2 ^ r) :=
  ⟨by
    unfold shr2
    rw [h.eq, shr_mask r (by omega) n h.w64]
    exact pack_congr n fun i hi => Nat.mod_eq_of_lt (Nat.lt_of_le_of_lt (Nat.div_le_self _ _) (h.lt i hi)), fun i hi => Nat.lt_of_le_of_lt (Nat.div_le_self _ _) (h.lt i hi)⟩
theorem Lan.rot (h : Lan n X f) (r : Nat) (h0 : 0 < r) (hr : r < 32) : Lan n (shr2 (pack n fun _ => 4294967295) r (X * 4294967297)) (fun i => rotr r (f i)) := by
  refine ⟨?_, fun i hi => W32.rotr (h.lt i hi) r⟩
  have e : X * 4294967297 = pack n fun i => f i * 4294967297 := by
    rw [h.eq, Nat.mul_comm, pack_mul]
    exact pack_congr n fun i _ => Nat.mul_comm _ _
  unfold shr2
  rw [e, shr_mask r (by omega) n (fun i hi => by have := h.lt i hi; omega)]
  exact pack_congr n fun i hi => rotr_twice (h.lt i hi) h0 hr
theorem Lan.xor (h : Lan n X f) (h' : Lan n Y g) : Lan n (X ^^^ Y) (fun i => f i ^^^ g i) :=
  ⟨by rw [h.eq, h'.eq, pack_xor n h.w64 h'.w64], fun i hi => Nat.xor_lt_two_pow (n := 32) (h.lt i hi) (h'.lt i hi)⟩
theorem Lan.and (h : Lan n X f) (h' : Lan n Y g) : Lan n (X &&& Y) (fun i => f i &&& g i) :=
  ⟨by rw [h.eq, h'.eq, pack_and n h.w64 h'.w64], fun i hi => Nat.lt_of_le_of_lt Nat.and_le_right (h'.lt i hi)⟩
theorem Lan.not (h : Lan n X f) : Lan n ((pack n fun _ => 4294967295) - X) (fun i => 4294967295 - f i) :=
  ⟨by rw [h.eq]; exact pack_sub n (fun i hi => by have := h.lt i hi; omega), fun i _ => by omega⟩
theorem Lan.const (n c : Nat) (hc : c < 4294967296) : Lan n (c * pack n fun _ => 1) (fun _ => c) := ⟨by rw [pack_mul]; simp, fun _ _ => hc⟩
theorem Lan.congr (h : Lan n X f) (e : ∀ i, i < n → f i = g i) : Lan n X g := ⟨by rw [h.eq, pack_congr n e], fun i hi => by rw [← e i hi]; exact h.lt i hi⟩

def three (M A B C : Nat) : Nat := (A ^^^ B ^^^ C) &&& M
theorem three_eq (M A B C : Nat) : three M A B C = (A &&& M) ^^^ (B &&& M) ^^^ (C &&& M) := by unfold three; rw [Nat.and_xor_distrib_right, Nat.and_xor_distrib_right]
def sig0L (M y : Nat) : Nat := three M (y * 4294967297 / 2 ^ 7) (y * 4294967297 / 2 ^ 18) (y / 2 ^ 3)
def sig1L (M y : Nat) : Nat := three M (y * 4294967297 / 2 ^ 17) (y * 4294967297 / 2 ^ 19) (y / 2 ^ 10)
def bsig1L (M y : Nat) : Nat := three M (y * 4294967297 / 2 ^ 6) (y * 4294967297 / 2 ^ 11) (y * 4294967297 / 2 ^ 25)
def bsig0L (M y : Nat) : Nat := three M (y * 4294967297 / 2 ^ 2) (y * 4294967297 / 2 ^ 13) (y * 4294967297 / 2 ^ 22)
def chL (M e f g : Nat) : Nat := (e &&& f) ^^^ ((M - e) &&& g)
def majL (a b c : Nat) : Nat := (a &&& b) ^^^ (a &&& c) ^^^ (b &&& c)

theorem Lan.sig0 (h : Lan n X f) : Lan n (sig0L (pack n fun _ => 4294967295) X) (fun i => sig0 (f i)) := by
  unfold sig0L
  rw [three_eq]
  exact ((h.rot 7 (by decide) (by decide)).xor (h.rot 18 (by decide) (by decide))).xor (h.shr 3 (by decide))
theorem Lan.sig1 (h : Lan n X f) : Lan n (sig1L (pack n fun _ => 4294967295) X) (fun i => sig1 (f i)) := by
  unfold sig1L
  rw [three_eq]
  exact ((h.rot 17 (by decide) (by decide)).xor (h.rot 19 (by decide) (by decide))).xor (h.shr 10 (by decide))
theorem Lan.bsig1 (h : Lan n X f) : Lan n (bsig1L (pack n fun _ => 4294967295) X) (fun i => bsig1 (f i)) := by
  unfold bsig1L
  rw [three_eq]
  exact ((h.rot 6 (by decide) (by decide)).xor (h.rot 11 (by decide) (by decide))).xor (h.rot 25 (by decide) (by decide))
theorem Lan.bsig0 (h : Lan n X f) : Lan n (bsig0L (pack n fun _ => 4294967295) X) (fun i => bsig0 (f i)) := by
  unfold bsig0L
  rw [three_eq]
  exact ((h.rot 2 (by decide) (by decide)).xor (h.rot 13 (by decide) (by decide))).xor (h.rot 22 (by decide) (by decide))
theorem Lan.ch (h : Lan n X f) (h1 : Lan n Y g) (h2 : Lan n Z k) : Lan n (chL (pack n fun _ => 4294967295) X Y Z) (fun i => chF (f i) (g i) (k i)) := (h.and h1).xor (h.not.and h2)
theorem Lan.maj (h : Lan n X f) (h1 : Lan n Y g) (h2 : Lan n Z k) : Lan n (majL X Y Z) (fun i => majF (f i) (g i) (k i)) := ((h.and h1).xor (h.and h2)).xor (h1.and h2)
def cutL (M X : Nat) : Nat := X &&& M
/-- A sum of a few words, cut once. -/
theorem sum_mask (n : Nat) {f : Nat → Nat} (hX : X = pack n f) (h : ∀ i, i < n → f i < 2 ^ 64) : Lan n (X &&& pack n fun _ => 4294967295) (fun i => f i % 4294967296) :=
  ⟨by rw [hX, pack_mask n h], fun i _ => Nat.mod_lt _ (by decide)⟩
theorem add32_eq (a b : Nat) : add32 a b = (a + b) % 4294967296 := Eq.refl _
theorem Lan.sum2 (h : Lan n X f) (h' : Lan n Y g) : Lan n (cutL (pack n fun _ => 4294967295) (X + Y)) (fun i => add32 (f i) (g i)) := by
  have t := sum_mask n (X := X + Y) (f := fun i => f i + g i) (by rw [h.eq, h'.eq, pack_add]) (fun i hi => by have := h.lt i hi; have := h'.lt i hi; omega)
  exact t.congr fun i _ => (add32_eq _ _).symm
theorem Lan.sum3 (h : Lan n X f) (h1 : Lan n Y g) (h2 : Lan n Z k) : Lan n (cutL (pack n fun _ => 4294967295) (X + (Y + Z))) (fun i => add32 (f i) (add32 (g i) (k i))) := by
  have t := sum_mask n (X := X + (Y + Z)) (f := fun i => f i + (g i + k i)) (by rw [h.eq, h1.eq, h2.eq, pack_add, pack_add]) (fun i hi => by have := h.lt i hi; have := h1.lt i hi; have := h2.lt i hi; omega)
  exact t.congr fun i _ => by rw [add32_eq, add32_eq]; omega
theorem Lan.sum4 {A : Nat} {p : Nat → Nat} (h : Lan n X f) (h1 : Lan n Y g) (h2 : Lan n Z k) (h3 : Lan n A p) : Lan n (cutL (pack n fun _ => 4294967295) (X + Y + Z + A)) (fun i => add32 (add32 (add32 (f i) (g i)) (k i)) (p i)) := by
  have t := sum_mask n (X := X + Y + Z + A) (f := fun i => f i + g i + k i + p i) (by rw [h.eq, h1.eq, h2.eq, h3.eq, pack_add, pack_add, pack_add]) (fun i hi => by have := h.lt i hi; have := h1.lt i hi; have := h2.lt i hi; have := h3.lt i hi; omega)
  exact t.congr fun i _ => by rw [add32_eq, add32_eq, add32_eq]; omega
theorem Lan.sum5 {A B : Nat} {p q : Nat → Nat} (h : Lan n X f) (h1 : Lan n Y g) (h2 : Lan n Z k) (h3 : Lan n A p) (h4 : Lan n B q) : Lan n (cutL (pack n fun _ => 4294967295) (X + Y + Z + A + B)) (fun i => add32 (add32 (add32 (add32 (f i) (g i)) (k i)) (p i)) (q i)) := by
  have t := sum_mask n (X := X + Y + Z + A + B) (f := fun i => f i + g i + k i + p i + q i) (by rw [h.eq, h1.eq, h2.eq, h3.eq, h4.eq, pack_add, pack_add, pack_add, pack_add]) (fun i hi => by have := h.lt i hi; have := h1.lt i hi; have := h2.lt i hi; have := h3.lt i hi; have := h4.lt i hi; omega)
  exact t.congr fun i _ => by rw [add32_eq, add32_eq, add32_eq, add32_eq]; omega
end

/-! ### The rounds, with the schedule in a window of 16 words -/
/-- The number is worked out first. -/
def force {α : Type} (n : Nat) (k : Nat → α) : α := Nat.rec (k 0) (fun m _ => k (m + 1)) n
theorem force_eq {α : Type} (n : Nat) (k : Nat → α) : force n k = k n := by cases n <;> rfl

structure Win where
  (w0 w1 w2 w3 w4 w5 w6 w7 w8 w9 w10 w11 w12 w13 w14 w15 : Nat)

abbrev Go8 := Nat → Nat → Nat → Nat → Nat → Nat → Nat → Nat → Nat → Nat → Nat → Nat → Nat → Nat → Nat → Nat → Nat → Nat → Nat → Nat → Nat → Nat → Nat → Nat → Nat
def stepL (M o k : Nat) (go : Go8) : Go8 := fun w0 w1 w2 w3 w4 w5 w6 w7 w8 w9 w10 w11 w12 w13 w14 w15 a b c d e f g h =>
  force (cutL M (h + bsig1L M e + chL M e f g + k * o + w0)) fun t1 =>
  force (cutL M (t1 + (bsig0L M a + majL a b c))) fun a' =>
  force (cutL M (d + t1)) fun e' =>
  force (cutL M (sig1L M w14 + w9 + sig0L M w1 + w0)) fun w16 =>
  go w1 w2 w3 w4 w5 w6 w7 w8 w9 w10 w11 w12 w13 w14 w15 w16 a' a b c e' e f g
def endL (M o : Nat) : Go8 := fun _ _ _ _ _ _ _ _ _ _ _ _ _ _ _ _ a b _ _ _ _ _ _ => 4294967296 * cutL M (0x6a09e667 * o + a) + cutL M (0xbb67ae85 * o + b)
def runL (M o : Nat) (ks : List Nat) : Go8 := ks.foldr (stepL M o) (endL M o)

theorem stepL_eq (M o k : Nat) (go : Go8) (w0 w1 w2 w3 w4 w5 w6 w7 w8 w9 w10 w11 w12 w13 w14 w15 a b c d e f g h : Nat) :
    stepL M o k go w0 w1 w2 w3 w4 w5 w6 w7 w8 w9 w10 w11 w12 w13 w14 w15 a b c d e f g h =
      go w1 w2 w3 w4 w5 w6 w7 w8 w9 w10 w11 w12 w13 w14 w15 (cutL M (sig1L M w14 + w9 + sig0L M w1 + w0)) (cutL M (cutL M (h + bsig1L M e + chL M e f g + k * o + w0) + (bsig0L M a + majL a b c))) a b c (cutL M (d + cutL M (h + bsig1L M e + chL M e f g + k * o + w0))) e f g := by
  unfold stepL
  generalize cutL M (h + bsig1L M e + chL M e f g + k * o + w0) = T
  rw [force_eq]
  generalize cutL M (T + (bsig0L M a + majL a b c)) = A
  rw [force_eq]
  generalize cutL M (d + T) = D
  rw [force_eq]
  generalize cutL M (sig1L M w14 + w9 + sig0L M w1 + w0) = W
  rw [force_eq]
theorem runL_nil (M o : Nat) : runL M o [] = endL M o := by unfold runL; exact List.foldr_nil
theorem runL_cons (M o k : Nat) (ks : List Nat) : runL M o (k :: ks) = stepL M o k (runL M o ks) := by unfold runL; exact List.foldr_cons ..
/-- The words of the schedule of a block. -/
def wrd (b : List UInt8) (t : Nat) : Nat := if t < 16 then word b t else nextW (schedTo b t) t
theorem sched_getD (b : List UInt8) {n t : Nat} (h : t < n) : (schedTo b n).getD t 0 = wrd b t := by
  rw [List.getD_eq_getElem?_getD, sched_get b n t h]
  rfl
theorem wrd_next (b : List UInt8) (t : Nat) : wrd b (t + 16) = add32 (add32 (add32 (sig1 (wrd b (t + 14))) (wrd b (t + 9))) (sig0 (wrd b (t + 1)))) (wrd b t) := by
  have h : ¬ t + 16 < 16 := by omega
  unfold wrd
  rw [if_neg h]
  unfold nextW
  rw [show t + 16 - 2 = t + 14 by omega, show t + 16 - 7 = t + 9 by omega, show t + 16 - 15 = t + 1 by omega, show t + 16 - 16 = t by omega,
    sched_getD b (show t + 14 < t + 16 by omega), sched_getD b (show t + 9 < t + 16 by omega), sched_getD b (show t + 1 < t + 16 by omega), sched_getD b (show t < t + 16 by omega)]
  rfl

/-! ### Numbers in order -/
def onesT : Nat → Nat
  | 0 => 1
  | k + 1 => onesT k * (1 + 2 ^ (64 * 2 ^ k))
def iotaT : Nat → Nat
  | 0 => 0
  | k + 1 => iotaT k + 2 ^ (64 * 2 ^ k) * (iotaT k + 2 ^ k * onesT k)
theorem ones_eq : ∀ k, onesT k = pack (2 ^ k) fun _ => 1
  | 0 => rfl
  | k + 1 => by
    rw [onesT, ones_eq k, Nat.pow_succ, Nat.mul_two, pack_append, Nat.mul_add, Nat.mul_one, Nat.mul_comm]
theorem iota_eq : ∀ k, iotaT k = pack (2 ^ k) fun i => i
  | 0 => rfl
  | k + 1 => by
    rw [iotaT, iota_eq k, ones_eq k, pack_mul, pack_add, Nat.pow_succ, Nat.mul_two, pack_append]
    congr 3
    funext i
    omega
end Go.Proofs.YtnhagokkamobaaaDoor
