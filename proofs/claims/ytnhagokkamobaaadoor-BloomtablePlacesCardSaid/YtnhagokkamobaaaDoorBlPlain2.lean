/- Invertible Bloom tables in plain Lean: peeling; the examples of the chapter. -/
import Derived.Test.YtnhagokkamobaaaDoorBlPlain
import Derived.Test.YtnhagokkamobaaaDoorShaPlain3
namespace Go.Proofs.YtnhagokkamobaaaDoor

def BT.cellAt (t : BT) (i : Nat) : BC := t.cells.getD i BC.zero

structure Peel where
  t : BT
  taken : List (List UInt8)
  added : List (List UInt8)
  removed : List (List UInt8)

def Peel.take (s : Peel) (c : BC) : Peel :=
  ⟨s.t.change c.keys (-c.count), c.keys :: s.taken, if c.count = 1 then s.added ++ [c.keys] else s.added, if c.count = 1 then s.removed else s.removed ++ [c.keys]⟩

def peel : Nat → Peel → Option Peel
  | 0, s => some s
  | n + 1, s => match s.t.first with
    | none => some s
    | some i => if s.taken.contains (s.t.cellAt i).keys then none else peel n (s.take (s.t.cellAt i))

def sortS (l : List (List UInt8)) : List (List UInt8) := l.mergeSort fun x y => decide (x ≤ y)

/-- The keys that are peeled, in the order in which they come. -/
def BT.raw (t : BT) : Option (List (List UInt8) × List (List UInt8)) := match peel t.cells.length ⟨t, [], [], []⟩ with
  | none => none
  | some s => if s.t.empty then some (s.added, s.removed) else none
def BT.keys (t : BT) : Option (List (List UInt8) × List (List UInt8)) := t.raw.map fun p => (sortS p.1, sortS p.2)

def BT.new (n seed : Nat) : BT := ⟨List.replicate n BC.zero, seed⟩

def exK (n : Nat) : List UInt8 := sha [UInt8.ofNat n]
def ex1 : BT := (BT.new 3 7).change (exK 1) 1
def ex2 : BT := ex1.change (exK 2) (-1)
def ex3 : BT := ex2.change (exK 1) (-1)

theorem ex1_raw : ex1.raw = some ([exK 1], []) := by decide +kernel
theorem ex2_raw : ex2.raw = none := by decide +kernel
theorem ex3_raw : ex3.raw = some ([], [exK 2]) := by decide +kernel

end Go.Proofs.YtnhagokkamobaaaDoor
