/- Many numbers of at most 64 bits side by side in one natural number ('lanes'): sums, bitwise operations and shifts go lane by lane. No program in sight. -/
namespace Go.Proofs.YtnhagokkamobaaaDoor

/-- f 0, f 1, .., f (n - 1), 64 bits each. -/
def pack : Nat → (Nat → Nat) → Nat
  | 0, _ => 0
  | n + 1, f => f 0 + 18446744073709551616 * pack n fun i => f (i + 1)

theorem pack_congr : ∀ (n : Nat) {f g : Nat → Nat}, (∀ i, i < n → f i = g i) → pack n f = pack n g
  | 0, _, _, _ => rfl
  | n + 1, f, g, h => by
    unfold pack
    rw [h 0 (by omega), pack_congr n (fun i hi => h (i + 1) (by omega))]
theorem pack_add : ∀ (n : Nat) (f g : Nat → Nat), pack n f + pack n g = pack n fun i => f i + g i
  | 0, _, _ => rfl
  | n + 1, f, g => by
    have ih := pack_add n (fun i => f (i + 1)) (fun i => g (i + 1))
    show (f 0 + 18446744073709551616 * pack n fun i => f (i + 1)) + (g 0 + 18446744073709551616 * pack n fun i => g (i + 1)) = (f 0 + g 0) + 18446744073709551616 * pack n fun i => f (i + 1) + g (i + 1)
    rw [← ih, Nat.mul_add]
    omega

theorem testBit_lane (a b i : Nat) (ha : a < 2 ^ 64) : (a + 2 ^ 64 * b).testBit i = if i < 64 then a.testBit i else b.testBit (i - 64) := by
  rw [Nat.add_comm]
  by_cases h : i < 64
  · rw [if_pos h, Nat.testBit_two_pow_mul_add _ ha, if_pos h]
  · rw [if_neg h, Nat.testBit_two_pow_mul_add _ ha, if_neg h]
theorem lane_xor (a b c d : Nat) (ha : a < 2 ^ 64) (hc : c < 2 ^ 64) : (a + 2 ^ 64 * b) ^^^ (c + 2 ^ 64 * d) = (a ^^^ c) + 2 ^ 64 * (b ^^^ d) := by
  apply Nat.eq_of_testBit_eq
  intro i
  rw [Nat.testBit_xor, testBit_lane _ _ _ ha, testBit_lane _ _ _ hc, testBit_lane _ _ _ (Nat.xor_lt_two_pow ha hc)]
  split <;> rw [Nat.testBit_xor]
theorem lane_and (a b c d : Nat) (ha : a < 2 ^ 64) (hc : c < 2 ^ 64) : (a + 2 ^ 64 * b) &&& (c + 2 ^ 64 * d) = (a &&& c) + 2 ^ 64 * (b &&& d) := by
  apply Nat.eq_of_testBit_eq
  intro i
  rw [Nat.testBit_and, testBit_lane _ _ _ ha, testBit_lane _ _ _ hc, testBit_lane _ _ _ (Nat.and_lt_two_pow _ hc)]
  split <;> rw [Nat.testBit_and]
theorem lane_or (a b c d : Nat) (ha : a < 2 ^ 64) (hc : c < 2 ^ 64) : (a + 2 ^ 64 * b) ||| (c + 2 ^ 64 * d) = (a ||| c) + 2 ^ 64 * (b ||| d) := by
  apply Nat.eq_of_testBit_eq
  intro i
  rw [Nat.testBit_or, testBit_lane _ _ _ ha, testBit_lane _ _ _ hc, testBit_lane _ _ _ (Nat.or_lt_two_pow ha hc)]
  split <;> rw [Nat.testBit_or]

theorem pack_xor : ∀ (n : Nat) {f g : Nat → Nat}, (∀ i, i < n → f i < 2 ^ 64) → (∀ i, i < n → g i < 2 ^ 64) → pack n f ^^^ pack n g = pack n fun i => f i ^^^ g i
  | 0, _, _, _, _ => by simp [pack]
  | n + 1, f, g, hf, hg => by
    have ih := pack_xor n (f := fun i => f (i + 1)) (g := fun i => g (i + 1)) (fun i hi => hf (i + 1) (by omega)) (fun i hi => hg (i + 1) (by omega))
    show (f 0 + 18446744073709551616 * pack n fun i => f (i + 1)) ^^^ (g 0 + 18446744073709551616 * pack n fun i => g (i + 1)) = (f 0 ^^^ g 0) + 18446744073709551616 * pack n fun i => f (i + 1) ^^^ g (i + 1)
    rw [← ih]
    exact lane_xor _ _ _ _ (hf 0 (by omega)) (hg 0 (by omega))
theorem pack_and : ∀ (n : Nat) {f g : Nat → Nat}, (∀ i, i < n → f i < 2 ^ 64) → (∀ i, i < n → g i < 2 ^ 64) → pack n f &&& pack n g = pack n fun i => f i &&& g i
  | 0, _, _, _, _ => by simp [pack]
  | n + 1, f, g, hf, hg => by
    have ih := pack_and n (f := fun i => f (i + 1)) (g := fun i => g (i + 1)) (fun i hi => hf (i + 1) (by omega)) (fun i hi => hg (i + 1) (by omega))
    show (f 0 + 18446744073709551616 * pack n fun i => f (i + 1)) &&& (g 0 + 18446744073709551616 * pack n fun i => g (i + 1)) = (f 0 &&& g 0) + 18446744073709551616 * pack n fun i => f (i + 1) &&& g (i + 1)
    rw [← ih]
    exact lane_and _ _ _ _ (hf 0 (by omega)) (hg 0 (by omega))
theorem pack_or : ∀ (n : Nat) {f g : Nat → Nat}, (∀ i, i < n → f i < 2 ^ 64) → (∀ i, i < n → g i < 2 ^ 64) → pack n f ||| pack n g = pack n fun i => f i ||| g i
  | 0, _, _, _, _ => by simp [pack]
  | n + 1, f, g, hf, hg => by
    have ih := pack_or n (f := fun i => f (i + 1)) (g := fun i => g (i + 1)) (fun i hi => hf (i + 1) (by omega)) (fun i hi => hg (i + 1) (by omega))
    show (f 0 + 18446744073709551616 * pack n fun i => f (i + 1)) ||| (g 0 + 18446744073709551616 * pack n fun i => g (i + 1)) = (f 0 ||| g 0) + 18446744073709551616 * pack n fun i => f (i + 1) ||| g (i + 1)
    rw [← ih]
    exact lane_or _ _ _ _ (hf 0 (by omega)) (hg 0 (by omega))

/-- A multiplication by a power of two stays inside the lanes. -/
theorem pack_mul (k : Nat) : ∀ (n : Nat) (f : Nat → Nat), k * pack n f = pack n fun i => k * f i
  | 0, _ => rfl
  | n + 1, f => by
    have ih := pack_mul k n (fun i => f (i + 1))
    unfold pack
    rw [← ih, Nat.mul_add, Nat.mul_left_comm]

/-- A shift to the right, cut to 32 bits. -/
theorem lane_shr (a b r : Nat) (ha : a < 2 ^ 32) (hr : r < 32) : ((a + 2 ^ 64 * b) / 2 ^ r) % 2 ^ 32 = a / 2 ^ r := by
  have h1 : 2 ^ 64 * b = 2 ^ r * (2 ^ (64 - r) * b) := by rw [← Nat.mul_assoc, ← Nat.pow_add]; congr 2; omega
  have h2 : 2 ^ (64 - r) * b = 2 ^ 32 * (2 ^ (32 - r) * b) := by rw [← Nat.mul_assoc, ← Nat.pow_add]; congr 2; omega
  rw [h1, Nat.add_mul_div_left _ _ (Nat.two_pow_pos r), h2, Nat.add_mul_mod_self_left]
  exact Nat.mod_eq_of_lt (Nat.lt_of_le_of_lt (Nat.div_le_self _ _) ha)
end Go.Proofs.YtnhagokkamobaaaDoor
