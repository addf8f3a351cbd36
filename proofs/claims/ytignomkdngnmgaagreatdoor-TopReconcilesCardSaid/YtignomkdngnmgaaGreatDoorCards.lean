/-
  DERIVED. GIVEN WITH THE SEED: THE CARDS: each row of YtignomkdngnmgaaGreatDoorRows.lean that lists a variable, with what it lists TIED to the program's text (the seventh form; the later family's looks); each row that meets fmt, with fmt's text TOLD by the authors' own Lean function (tested against real Go, not proved from fmt's source: count such statements apart). THE CARD IS WHAT COUNTS. Prove the row's statement (the work); the ties are given (YtignomkdngnmgaaGreatDoorTie.lean); close each card by the builder's one call (the guide's Derived/Test/ToyasCard.lean, 'card_holds'). Laid BY PROGRAM, IN A SANDBOX (cutbox-door.mjs). By AI agents, Wed Nov 11 2026. No macro, syntax, notation, axiom, sorry.
-/
import Derived.Test.YtignomkdngnmgaaGreatDoorRows
import GoSem.ClaimSeven
namespace Go.Proofs.YtignomkdngnmgaaGreatDoor
namespace Rows

/-- THE TIED CARD OF 'kinkeeptop.TopReconciles'. -/
def topReconcilesCard : Claim7 := { stood := { row := topReconcilesRow, standIns := [], harness := (true, "d76e8c76ef06fd2b1a2eedf9492e71b2e7629fa57f3ffcbfa0c8e615832bf786"), looks := true }, kinds := [], alts := [], laidByText := true, laidKinds := [.data, .data], laidTests := true, laidLooks := .later }
def TopReconcilesCardSaid : Prop := Claim7.holds Tryz.pinned (.plain (OpenSpec.ofChange topReconcilesSpec)) topReconcilesCard

/-- THE SECOND FORM's CARD OF 'kinkeeptop.TopReconciles'. -/
def topReconcilesUptoCard : Claim7 := { stood := { row := topReconcilesUptoRow, standIns := [], harness := (true, "d76e8c76ef06fd2b1a2eedf9492e71b2e7629fa57f3ffcbfa0c8e615832bf786"), looks := true }, kinds := [], alts := [], laidByText := true, laidKinds := [.data, .data], laidTests := true, laidLooks := .later }
def TopReconcilesUptoCardSaid : Prop := Claim7.holds Tryz.pinned (.plain (OpenSpec.upto topReconcilesSpec)) topReconcilesUptoCard
end Rows
end Go.Proofs.YtignomkdngnmgaaGreatDoor
