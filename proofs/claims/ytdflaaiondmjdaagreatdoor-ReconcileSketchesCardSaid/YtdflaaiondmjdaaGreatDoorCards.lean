/-
  DERIVED. GIVEN WITH THE SEED: THE CARDS: each row of YtdflaaiondmjdaaGreatDoorRows.lean that lists a variable, with what it lists TIED to the program's text (the seventh form; the later family's looks); each row that meets fmt, with fmt's text TOLD by the authors' own Lean function (tested against real Go, not proved from fmt's source: count such statements apart). THE CARD IS WHAT COUNTS. Prove the row's statement (the work); the ties are given (YtdflaaiondmjdaaGreatDoorTie.lean); close each card by the builder's one call (the guide's Derived/Test/ToyasCard.lean, 'card_holds'). Laid BY PROGRAM, IN A SANDBOX (cutbox-door.mjs). By AI agents, Wed Nov 11 2026. No macro, syntax, notation, axiom, sorry.
-/
import Derived.Test.YtdflaaiondmjdaaGreatDoorRows
import GoSem.ClaimSeven
namespace Go.Proofs.YtdflaaiondmjdaaGreatDoor
namespace Rows

/-- THE TIED CARD OF 'kinkeeplaw40.ReconcileSketches'. -/
def reconcileSketchesCard : Claim7 := { stood := { row := reconcileSketchesRow, standIns := [], harness := (true, "b26a50fc90168ebd20fb101e5e40222dadf6a72cf11f751d4b6af3ef0dc32fb3"), looks := true }, kinds := [], alts := [], laidByText := true, laidKinds := [.data, .data], laidTests := true, laidLooks := .later }
def ReconcileSketchesCardSaid : Prop := Claim7.holds Tryz.pinned (.plain (OpenSpec.ofChange reconcileSketchesSpec)) reconcileSketchesCard

/-- THE TIED CARD OF 'kinkeeplaw40.ReconcileSides'. -/
def reconcileSidesCard : Claim7 := { stood := { row := reconcileSidesRow, standIns := [], harness := (true, "b26a50fc90168ebd20fb101e5e40222dadf6a72cf11f751d4b6af3ef0dc32fb3"), looks := true }, kinds := [], alts := [], laidByText := true, laidKinds := [.data, .data], laidTests := true, laidLooks := .later }
def ReconcileSidesCardSaid : Prop := Claim7.holds Tryz.pinned (.plain (OpenSpec.ofChange reconcileSidesSpec)) reconcileSidesCard

/-- THE TIED CARD OF 'kinkeeplaw40.ReconcileStands'. -/
def reconcileStandsCard : Claim7 := { stood := { row := reconcileStandsRow, standIns := [], harness := (true, "b26a50fc90168ebd20fb101e5e40222dadf6a72cf11f751d4b6af3ef0dc32fb3"), looks := true }, kinds := [], alts := [], laidByText := true, laidKinds := [.data, .data], laidTests := true, laidLooks := .later }
def ReconcileStandsCardSaid : Prop := Claim7.holds Tryz.pinned (.plain (OpenSpec.ofChange reconcileStandsSpec)) reconcileStandsCard

/-- THE SECOND FORM's CARD OF 'kinkeeplaw40.ReconcileSketches'. -/
def reconcileSketchesUptoCard : Claim7 := { stood := { row := reconcileSketchesUptoRow, standIns := [], harness := (true, "b26a50fc90168ebd20fb101e5e40222dadf6a72cf11f751d4b6af3ef0dc32fb3"), looks := true }, kinds := [], alts := [], laidByText := true, laidKinds := [.data, .data], laidTests := true, laidLooks := .later }
def ReconcileSketchesUptoCardSaid : Prop := Claim7.holds Tryz.pinned (.plain (OpenSpec.upto reconcileSketchesSpec)) reconcileSketchesUptoCard

/-- THE SECOND FORM's CARD OF 'kinkeeplaw40.ReconcileSides'. -/
def reconcileSidesUptoCard : Claim7 := { stood := { row := reconcileSidesUptoRow, standIns := [], harness := (true, "b26a50fc90168ebd20fb101e5e40222dadf6a72cf11f751d4b6af3ef0dc32fb3"), looks := true }, kinds := [], alts := [], laidByText := true, laidKinds := [.data, .data], laidTests := true, laidLooks := .later }
def ReconcileSidesUptoCardSaid : Prop := Claim7.holds Tryz.pinned (.plain (OpenSpec.upto reconcileSidesSpec)) reconcileSidesUptoCard

/-- THE SECOND FORM's CARD OF 'kinkeeplaw40.ReconcileStands'. -/
def reconcileStandsUptoCard : Claim7 := { stood := { row := reconcileStandsUptoRow, standIns := [], harness := (true, "b26a50fc90168ebd20fb101e5e40222dadf6a72cf11f751d4b6af3ef0dc32fb3"), looks := true }, kinds := [], alts := [], laidByText := true, laidKinds := [.data, .data], laidTests := true, laidLooks := .later }
def ReconcileStandsUptoCardSaid : Prop := Claim7.holds Tryz.pinned (.plain (OpenSpec.upto reconcileStandsSpec)) reconcileStandsUptoCard
end Rows
end Go.Proofs.YtdflaaiondmjdaaGreatDoor
