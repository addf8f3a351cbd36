/-
  DERIVED. GIVEN WITH THE SEED: THE CARDS: each row of YtkjnecaieiaijaaGreatDoorRows.lean that lists a variable, with what it lists TIED to the program's text (the seventh form; the later family's looks); each row that meets fmt, with fmt's text TOLD by the authors' own Lean function (tested against real Go, not proved from fmt's source: count such statements apart). THE CARD IS WHAT COUNTS. Prove the row's statement (the work); the ties are given (YtkjnecaieiaijaaGreatDoorTie.lean); close each card by the builder's one call (the guide's Derived/Test/ToyasCard.lean, 'card_holds'). Laid BY PROGRAM, IN A SANDBOX (cutbox-door.mjs). By AI agents, Wed Nov 11 2026. No macro, syntax, notation, axiom, sorry.
-/
import Derived.Test.YtkjnecaieiaijaaGreatDoorRows
import GoSem.ClaimSeven
namespace Go.Proofs.YtkjnecaieiaijaaGreatDoor
namespace Rows

/-- THE TIED CARD OF 'kinkeeplaw40.ReconcileSides'. -/
def reconcileSidesCard : Claim7 := { stood := { row := reconcileSidesRow, standIns := [], harness := (true, "36153d77bc4f86f2f3e6313030987b075fb005b47e83e96364b695a762245946"), looks := true }, kinds := [], alts := [], laidByText := true, laidKinds := [.data, .data], laidTests := true, laidLooks := .later }
def ReconcileSidesCardSaid : Prop := Claim7.holds Tryz.pinned (.plain (OpenSpec.ofChange reconcileSidesSpec)) reconcileSidesCard

/-- THE SECOND FORM's CARD OF 'kinkeeplaw40.ReconcileSides'. -/
def reconcileSidesUptoCard : Claim7 := { stood := { row := reconcileSidesUptoRow, standIns := [], harness := (true, "36153d77bc4f86f2f3e6313030987b075fb005b47e83e96364b695a762245946"), looks := true }, kinds := [], alts := [], laidByText := true, laidKinds := [.data, .data], laidTests := true, laidLooks := .later }
def ReconcileSidesUptoCardSaid : Prop := Claim7.holds Tryz.pinned (.plain (OpenSpec.upto reconcileSidesSpec)) reconcileSidesUptoCard
end Rows
end Go.Proofs.YtkjnecaieiaijaaGreatDoor
