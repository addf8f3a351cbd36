/- The day clock as plain Lean data: its fields, what Read, Hear and Supported do to them. No program in sight. -/
import Derived.WalkKit
import Derived.Test.YtflabbdnkoejjaaBase
namespace Go.Proofs.Ytflabbdnkoejjaa

structure Clk where
  first : Int
  day : Int
  leap : Int
  quorum : Int
  own : Int
  ref : Int
  read : Bool
  told : List Int
  heard : List Bool

def Clk.tail (c : Clk) : List Value := c.told.map (Value.int .i64) ++ c.heard.map Value.bool
def Clk.cells (c : Clk) : List Value := Value.int .i64 c.first :: Value.int .i64 c.day :: Value.int .i64 c.leap :: Value.int .i64 c.quorum :: Value.int .i64 c.own :: Value.int .i64 c.ref :: Value.bool c.read :: c.tail

def inDay (d : Int) : Bool := decide (0 ≤ d) && decide (d ≤ 999999)

def inDev (d : Int) : Bool := decide (0 ≤ d) && decide (d < 12)

def Clk.new (d l q : Int) : Clk := { first := d, day := d, leap := l, quorum := q, own := 0, ref := 0, read := false, told := List.replicate 12 0, heard := List.replicate 12 false }

def Clk.ranges (c : Clk) : Bool := inDay c.first && decide (0 ≤ c.leap) && decide (c.leap ≤ 1000) && decide (1 ≤ c.quorum) && decide (c.quorum ≤ 12)

/-- By how many days a reading raises the day. -/
def Clk.step (c : Clk) (wall : Int) : Int := if c.read = true ∧ c.ref ≤ wall ∧ wall - c.ref ≤ c.leap then min (wall - c.ref) (999999 - c.day) else 0

def Clk.rd (c : Clk) (wall : Int) : Clk :=
  { c with day := c.day + c.step wall, own := min c.own (9223372036854775807 - c.step wall) + c.step wall, ref := wall, read := true }

/-- The told days of the first k devices that have told one. -/
def Clk.days (c : Clk) (k : Nat) : List Int := ((c.told.zip c.heard).take k).filterMap fun p => if p.2 then some p.1 else none

structure Clk.Ok (c : Clk) : Prop where
  told : c.told.length = 12
  heard : c.heard.length = 12

theorem Clk.days_succ (c : Clk) (k : Nat) (x : Int) (y : Bool) (hx : c.told[k]? = some x) (hy : c.heard[k]? = some y) : c.days (k + 1) = c.days k ++ if y then [x] else [] := by
  unfold Clk.days
  have hz : (c.told.zip c.heard)[k]? = some (x, y) := by rw [List.getElem?_zip_eq_some]; exact ⟨hx, hy⟩
  rw [List.take_add_one, hz, List.filterMap_append]
  cases y <;> simp

theorem Clk.days_le (c : Clk) (k : Nat) : (c.days k).length ≤ k := by
  unfold Clk.days
  exact Nat.le_trans (List.length_filterMap_le _ _) (List.length_take_le _ _)

theorem Clk.cell_told (c : Clk) (h : c.Ok) (k : Nat) (hk : k < 12) : ∃ x, c.told[k]? = some x ∧ c.cells[7 + k]? = some (Value.int .i64 x) := by
  have hl : k < c.told.length := by rw [h.told]; exact hk
  refine ⟨c.told[k], List.getElem?_eq_getElem hl, ?_⟩
  rw [show 7 + k = k + 7 by omega]
  simp only [Clk.cells, Clk.tail, List.getElem?_cons_succ]
  rw [List.getElem?_append_left (by simpa using hl)]
  simp [List.getElem?_eq_getElem hl]

theorem Clk.cell_heard (c : Clk) (h : c.Ok) (k : Nat) (hk : k < 12) : ∃ x, c.heard[k]? = some x ∧ c.cells[19 + k]? = some (Value.bool x) := by
  have hl : k < c.heard.length := by rw [h.heard]; exact hk
  refine ⟨c.heard[k], List.getElem?_eq_getElem hl, ?_⟩
  rw [show 19 + k = (12 + k) + 7 by omega]
  simp only [Clk.cells, Clk.tail, List.getElem?_cons_succ]
  rw [List.getElem?_append_right (by simp [h.told])]
  simp [h.told, List.getElem?_eq_getElem hl]

end Go.Proofs.Ytflabbdnkoejjaa
