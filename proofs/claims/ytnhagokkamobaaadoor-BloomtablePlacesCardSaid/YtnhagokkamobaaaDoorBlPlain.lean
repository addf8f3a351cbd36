/- Invertible Bloom tables in plain Lean. No program in sight. -/
import Derived.Test.YtnhagokkamobaaaDoorShaPlain2
namespace Go.Proofs.YtnhagokkamobaaaDoor

/-- A cell of a table. -/
structure BC where
  count : Int
  keys : List UInt8
  checks : Nat

def BC.zero : BC := ⟨0, List.replicate 32 0, 0⟩
def BC.cells (c : BC) : List Value := Value.int .i64 c.count :: (B8 c.keys ++ [.int .u64 (c.checks : Int)])

structure BC.Ok (c : BC) : Prop where
  count : Fit64 c.count
  keys : c.keys.length = 32
  checks : U64 c.checks

theorem BC.Ok.zero : BC.zero.Ok := ⟨by unfold Fit64; decide, rfl, by unfold U64; decide⟩
theorem BC.cells_len {c : BC} (h : c.Ok) : c.cells.length = 34 := by simp [BC.cells, B8_length, h.keys]

structure BT where
  cells : List BC
  seed : Nat

structure BT.Ok (t : BT) : Prop where
  cells : ∀ c ∈ t.cells, c.Ok
  seed : U64 t.seed

def seed8 (s : Nat) : List UInt8 := [byteAt s 7, byteAt s 6, byteAt s 5, byteAt s 4, byteAt s 3, byteAt s 2, byteAt s 1, byteAt s 0]

/-- The number of the first k bytes, the greatest first. -/
def beNum (l : List UInt8) : Nat → Nat
  | 0 => 0
  | k + 1 => beNum l k * 256 + (l.getD k 0).toNat

def bhash (seed i : Nat) (key : List UInt8) : Nat := beNum (sha (seed8 seed ++ [UInt8.ofNat i] ++ key)) 8
def bplace (n seed : Nat) (key : List UInt8) (i : Nat) : Nat := i * (n / 3) + bhash seed i key % (n / 3)

def isSz (n : Int) : Bool := decide (3 ≤ n) && decide (n ≤ 3072) && decide (n % 3 = 0)

theorem beNum_lt (l : List UInt8) : ∀ k, beNum l k < 256 ^ k
  | 0 => by simp [beNum]
  | k + 1 => by
    have ih := beNum_lt l k
    have hb := UInt8.toNat_lt (l.getD k 0)
    rw [beNum, Nat.pow_succ]
    omega

theorem bhash_u64 (seed i : Nat) (key : List UInt8) : U64 (bhash seed i key) := beNum_lt _ 8

theorem bplace_lt (n seed : Nat) (key : List UInt8) (i : Nat) (hn : 3 ≤ n) (hi : i < 3) : bplace n seed key i < n := by
  have h1 : 0 < n / 3 := by omega
  have h2 := Nat.mod_lt (bhash seed i key) h1
  unfold bplace
  have : i * (n / 3) ≤ 2 * (n / 3) := Nat.mul_le_mul_right _ (by omega)
  omega

theorem bplace_ne (n seed : Nat) (key key' : List UInt8) (i j : Nat) (hn : 3 ≤ n) (hij : i < j) : bplace n seed key i < bplace n seed key' j := by
  have h1 : 0 < n / 3 := by omega
  have h2 := Nat.mod_lt (bhash seed i key) h1
  unfold bplace
  have : (i + 1) * (n / 3) ≤ j * (n / 3) := Nat.mul_le_mul_right _ (by omega)
  have e : (i + 1) * (n / 3) = i * (n / 3) + n / 3 := by rw [Nat.add_mul, Nat.one_mul]
  omega

def xorB (a b : List UInt8) : List UInt8 := List.zipWith (fun x y => x ^^^ y) a b
theorem xorB_len (a b : List UInt8) (h : a.length = b.length) : (xorB a b).length = a.length := by simp [xorB, h]

def BC.add (c : BC) (key : List UInt8) (num : Int) (chk : Nat) : BC := ⟨IntKind.i64.wrap (c.count + num), xorB c.keys key, c.checks ^^^ chk⟩

theorem wrap_fit (n : Int) : Fit64 (IntKind.i64.wrap n) := by
  rw [IntKind.wrap_i64]
  unfold Fit64
  omega

theorem BC.Ok.add {c : BC} (h : c.Ok) {key : List UInt8} (hk : key.length = 32) (num : Int) {chk : Nat} (hc : U64 chk) : (c.add key num chk).Ok :=
  ⟨wrap_fit _, by show (xorB c.keys key).length = 32; rw [xorB_len _ _ (by rw [h.keys, hk])]; exact h.keys, Nat.xor_lt_two_pow (n := 64) h.checks hc⟩

/-- One of a key's cells. -/
def BT.at1 (t : BT) (key : List UInt8) (num : Int) (i : Nat) : BT := { t with cells := t.cells.modify (bplace t.cells.length t.seed key i) fun c => c.add key num (bhash t.seed 3 key) }
def BT.change (t : BT) (key : List UInt8) (num : Int) : BT := ((t.at1 key num 0).at1 key num 1).at1 key num 2

theorem BT.at1_len (t : BT) (key : List UInt8) (num : Int) (i : Nat) : (t.at1 key num i).cells.length = t.cells.length := by simp [BT.at1]
theorem BT.change_len (t : BT) (key : List UInt8) (num : Int) : (t.change key num).cells.length = t.cells.length := by simp [BT.change, BT.at1_len]

def BC.pure (seed : Nat) (c : BC) : Bool := (decide (c.count = 1) || decide (c.count = -1)) && decide (c.checks = bhash seed 3 c.keys)
def BC.isZero (c : BC) : Bool := decide (c.count = 0) && decide (c.keys = List.replicate 32 0) && decide (c.checks = 0)
def BT.empty (t : BT) : Bool := t.cells.all BC.isZero
def BT.first (t : BT) : Option Nat := t.cells.findIdx? (BC.pure t.seed)

end Go.Proofs.YtnhagokkamobaaaDoor
