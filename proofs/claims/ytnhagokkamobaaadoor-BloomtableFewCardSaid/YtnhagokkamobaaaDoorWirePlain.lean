/- The encodings of layer 1 as plain lists of bytes. No program in sight. -/
import Derived.Test.YtnhagokkamobaaaDoorBase
namespace Go.Proofs.YtnhagokkamobaaaDoor

/-- The cells of bytes. -/
def B8 (bs : List UInt8) : List Value := bs.map fun b => Value.int .u8 (b.toNat : Int)

theorem B8_append (a b : List UInt8) : B8 (a ++ b) = B8 a ++ B8 b := by simp [B8]
theorem B8_length (a : List UInt8) : (B8 a).length = a.length := by simp [B8]
theorem B8_one (a : List UInt8) : ∀ u ∈ B8 a, u.oneCell' = true := by
  intro u hu
  obtain ⟨b, _, rfl⟩ := List.mem_map.1 hu
  rfl
theorem B8_get (a : List UInt8) (i : Nat) (b : UInt8) (h : a[i]? = some b) : (B8 a)[i]? = some (.int .u8 (b.toNat : Int)) := by simp [B8, h]

/-- A number in base 128, the least significant group first. -/
def num (n : Nat) : List UInt8 := if n < 128 then [UInt8.ofNat n] else UInt8.ofNat (n % 128 + 128) :: num (n / 128)
termination_by n

theorem num_small (n : Nat) (h : n < 128) : num n = [UInt8.ofNat n] := by rw [num, if_pos h]
theorem num_big (n : Nat) (h : ¬ n < 128) : num n = UInt8.ofNat (n % 128 + 128) :: num (n / 128) := by rw [num, if_neg h]

theorem num_length_pow (k : Nat) : ∀ n, n < 128 ^ (k + 1) → (num n).length ≤ k + 1 := by
  induction k with
  | zero => intro n h; rw [num_small n (by simpa using h)]; simp
  | succ k ih =>
    intro n h
    by_cases hn : n < 128
    · rw [num_small n hn]; simp
    · rw [num_big n hn, List.length_cons]
      have : n / 128 < 128 ^ (k + 1) := by
        rw [Nat.div_lt_iff_lt_mul (by omega)]
        rw [Nat.pow_succ] at h
        exact h
      have := ih _ this
      omega

theorem num_length (n : Nat) (h : n < 18446744073709551616) : (num n).length ≤ 10 := num_length_pow 9 n (by omega)

theorem or_128 : ∀ x < 256, x ||| 128 = x % 128 + 128 := by decide +kernel
theorem byte_or (m : Nat) : bits BinOp.or IntKind.u8 ((m : Int) % 256) 128 = ((UInt8.ofNat (m % 128 + 128)).toNat : Int) := by
  have h := u8_or_nat (m % 256) 128 (by omega) (by omega)
  rw [or_128 _ (by omega)] at h
  have e : ((m % 256 : Nat) : Int) = (m : Int) % 256 := by omega
  rw [e] at h
  rw [show ((128 : Nat) : Int) = 128 from rfl] at h
  rw [h]
  have : (UInt8.ofNat (m % 128 + 128)).toNat = m % 128 + 128 := by simp; omega
  rw [this]
  omega
theorem byte_low (m : Nat) (h : m < 256) : (m : Int) = ((UInt8.ofNat m).toNat : Int) := by
  have : (UInt8.ofNat m).toNat = m := by simp; omega
  rw [this]

/-- A number of 64 bits (behind a name: the numeral stops the walk). -/
def U64 (n : Nat) : Prop := n < 18446744073709551616

/-- The zigzag number of an int. -/
def zig (n : Int) : Nat := if n < 0 then ((-(n + 1)) * 2 + 1).toNat else (n * 2).toNat

theorem zig_lt (n : Int) (h0 : -9223372036854775808 ≤ n) (h1 : n ≤ 9223372036854775807) : zig n < 18446744073709551616 := by
  unfold zig
  split <;> omega

def Fit64 (n : Int) : Prop := -9223372036854775808 ≤ n ∧ n ≤ 9223372036854775807

theorem zig_len (n : Int) (h : Fit64 n) : (num (zig n)).length ≤ 10 := num_length _ (zig_lt n h.1 h.2)

end Go.Proofs.YtnhagokkamobaaaDoor
