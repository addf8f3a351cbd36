/-
  DERIVED. GIVEN WITH THE SEED: THE CARDS: each row of YtlepfnihpdhcaaaGreatDoorRows.lean that lists a variable, with what it lists TIED to the program's text (the seventh form; the later family's looks); each row that meets fmt, with fmt's text TOLD by the authors' own Lean function (tested against real Go, not proved from fmt's source: count such statements apart). THE CARD IS WHAT COUNTS. Prove the row's statement (the work); the ties are given (YtlepfnihpdhcaaaGreatDoorTie.lean); close each card by the builder's one call (the guide's Derived/Test/ToyasCard.lean, 'card_holds'). Laid BY PROGRAM, IN A SANDBOX (cutbox-door.mjs). By AI agents, Wed Nov 11 2026. No macro, syntax, notation, axiom, sorry.
-/
import Derived.Test.YtlepfnihpdhcaaaGreatDoorRows
import GoSem.ClaimSeven
namespace Go.Proofs.YtlepfnihpdhcaaaGreatDoor
namespace Rows

/-- THE TIED CARD OF 'kinkeeplaw38.RangesumSteps'. -/
def rangesumStepsCard : Claim7 := { stood := { row := rangesumStepsRow, standIns := [], harness := (true, "dd8d685f6653b21f27197b98584850f94a87fec343da1a253364bd36b8d46893"), looks := true }, kinds := [], alts := [], laidByText := true, laidKinds := [.data, .data], laidTests := true, laidLooks := .later }
def RangesumStepsCardSaid : Prop := Claim7.holds Tryz.pinned (.plain (OpenSpec.ofChange rangesumStepsSpec)) rangesumStepsCard

/-- THE TIED CARD OF 'kinkeeplaw38.RangesumRuns'. -/
def rangesumRunsCard : Claim7 := { stood := { row := rangesumRunsRow, standIns := [], harness := (true, "dd8d685f6653b21f27197b98584850f94a87fec343da1a253364bd36b8d46893"), looks := true }, kinds := [], alts := [], laidByText := true, laidKinds := [.data, .data], laidTests := true, laidLooks := .later }
def RangesumRunsCardSaid : Prop := Claim7.holds Tryz.pinned (.plain (OpenSpec.ofChange rangesumRunsSpec)) rangesumRunsCard

/-- THE TIED CARD OF 'kinkeeplaw38.RangesumExact'. -/
def rangesumExactCard : Claim7 := { stood := { row := rangesumExactRow, standIns := [], harness := (true, "dd8d685f6653b21f27197b98584850f94a87fec343da1a253364bd36b8d46893"), looks := true }, kinds := [], alts := [], laidByText := true, laidKinds := [.data, .data], laidTests := true, laidLooks := .later }
def RangesumExactCardSaid : Prop := Claim7.holds Tryz.pinned (.plain (OpenSpec.ofChange rangesumExactSpec)) rangesumExactCard

/-- THE TIED CARD OF 'kinkeeplaw38.RangesumBoth'. -/
def rangesumBothCard : Claim7 := { stood := { row := rangesumBothRow, standIns := [], harness := (true, "dd8d685f6653b21f27197b98584850f94a87fec343da1a253364bd36b8d46893"), looks := true }, kinds := [], alts := [], laidByText := true, laidKinds := [.data, .data], laidTests := true, laidLooks := .later }
def RangesumBothCardSaid : Prop := Claim7.holds Tryz.pinned (.plain (OpenSpec.ofChange rangesumBothSpec)) rangesumBothCard

/-- THE TIED CARD OF 'kinkeeplaw38.RangesumBounded'. -/
def rangesumBoundedCard : Claim7 := { stood := { row := rangesumBoundedRow, standIns := [], harness := (true, "dd8d685f6653b21f27197b98584850f94a87fec343da1a253364bd36b8d46893"), looks := true }, kinds := [], alts := [], laidByText := true, laidKinds := [.data, .data], laidTests := true, laidLooks := .later }
def RangesumBoundedCardSaid : Prop := Claim7.holds Tryz.pinned (.plain (OpenSpec.ofChange rangesumBoundedSpec)) rangesumBoundedCard

/-- THE TIED CARD OF 'kinkeeplaw38.RangesumStands'. -/
def rangesumStandsCard : Claim7 := { stood := { row := rangesumStandsRow, standIns := [], harness := (true, "dd8d685f6653b21f27197b98584850f94a87fec343da1a253364bd36b8d46893"), looks := true }, kinds := [], alts := [], laidByText := true, laidKinds := [.data, .data], laidTests := true, laidLooks := .later }
def RangesumStandsCardSaid : Prop := Claim7.holds Tryz.pinned (.plain (OpenSpec.ofChange rangesumStandsSpec)) rangesumStandsCard

/-- THE TIED CARD OF 'kinkeeplaw38.RangesumFingerprints'. -/
def rangesumFingerprintsCard : Claim7 := { stood := { row := rangesumFingerprintsRow, standIns := [], harness := (true, "dd8d685f6653b21f27197b98584850f94a87fec343da1a253364bd36b8d46893"), looks := true }, kinds := [], alts := [], laidByText := true, laidKinds := [.data, .data], laidTests := true, laidLooks := .later }
def RangesumFingerprintsCardSaid : Prop := Claim7.holds Tryz.pinned (.plain (OpenSpec.ofChange rangesumFingerprintsSpec)) rangesumFingerprintsCard

/-- THE SECOND FORM's CARD OF 'kinkeeplaw38.RangesumSteps'. -/
def rangesumStepsUptoCard : Claim7 := { stood := { row := rangesumStepsUptoRow, standIns := [], harness := (true, "dd8d685f6653b21f27197b98584850f94a87fec343da1a253364bd36b8d46893"), looks := true }, kinds := [], alts := [], laidByText := true, laidKinds := [.data, .data], laidTests := true, laidLooks := .later }
def RangesumStepsUptoCardSaid : Prop := Claim7.holds Tryz.pinned (.plain (OpenSpec.upto rangesumStepsSpec)) rangesumStepsUptoCard

/-- THE SECOND FORM's CARD OF 'kinkeeplaw38.RangesumRuns'. -/
def rangesumRunsUptoCard : Claim7 := { stood := { row := rangesumRunsUptoRow, standIns := [], harness := (true, "dd8d685f6653b21f27197b98584850f94a87fec343da1a253364bd36b8d46893"), looks := true }, kinds := [], alts := [], laidByText := true, laidKinds := [.data, .data], laidTests := true, laidLooks := .later }
def RangesumRunsUptoCardSaid : Prop := Claim7.holds Tryz.pinned (.plain (OpenSpec.upto rangesumRunsSpec)) rangesumRunsUptoCard

/-- THE SECOND FORM's CARD OF 'kinkeeplaw38.RangesumExact'. -/
def rangesumExactUptoCard : Claim7 := { stood := { row := rangesumExactUptoRow, standIns := [], harness := (true, "dd8d685f6653b21f27197b98584850f94a87fec343da1a253364bd36b8d46893"), looks := true }, kinds := [], alts := [], laidByText := true, laidKinds := [.data, .data], laidTests := true, laidLooks := .later }
def RangesumExactUptoCardSaid : Prop := Claim7.holds Tryz.pinned (.plain (OpenSpec.upto rangesumExactSpec)) rangesumExactUptoCard

/-- THE SECOND FORM's CARD OF 'kinkeeplaw38.RangesumBoth'. -/
def rangesumBothUptoCard : Claim7 := { stood := { row := rangesumBothUptoRow, standIns := [], harness := (true, "dd8d685f6653b21f27197b98584850f94a87fec343da1a253364bd36b8d46893"), looks := true }, kinds := [], alts := [], laidByText := true, laidKinds := [.data, .data], laidTests := true, laidLooks := .later }
def RangesumBothUptoCardSaid : Prop := Claim7.holds Tryz.pinned (.plain (OpenSpec.upto rangesumBothSpec)) rangesumBothUptoCard

/-- THE SECOND FORM's CARD OF 'kinkeeplaw38.RangesumBounded'. -/
def rangesumBoundedUptoCard : Claim7 := { stood := { row := rangesumBoundedUptoRow, standIns := [], harness := (true, "dd8d685f6653b21f27197b98584850f94a87fec343da1a253364bd36b8d46893"), looks := true }, kinds := [], alts := [], laidByText := true, laidKinds := [.data, .data], laidTests := true, laidLooks := .later }
def RangesumBoundedUptoCardSaid : Prop := Claim7.holds Tryz.pinned (.plain (OpenSpec.upto rangesumBoundedSpec)) rangesumBoundedUptoCard

/-- THE SECOND FORM's CARD OF 'kinkeeplaw38.RangesumStands'. -/
def rangesumStandsUptoCard : Claim7 := { stood := { row := rangesumStandsUptoRow, standIns := [], harness := (true, "dd8d685f6653b21f27197b98584850f94a87fec343da1a253364bd36b8d46893"), looks := true }, kinds := [], alts := [], laidByText := true, laidKinds := [.data, .data], laidTests := true, laidLooks := .later }
def RangesumStandsUptoCardSaid : Prop := Claim7.holds Tryz.pinned (.plain (OpenSpec.upto rangesumStandsSpec)) rangesumStandsUptoCard

/-- THE SECOND FORM's CARD OF 'kinkeeplaw38.RangesumFingerprints'. -/
def rangesumFingerprintsUptoCard : Claim7 := { stood := { row := rangesumFingerprintsUptoRow, standIns := [], harness := (true, "dd8d685f6653b21f27197b98584850f94a87fec343da1a253364bd36b8d46893"), looks := true }, kinds := [], alts := [], laidByText := true, laidKinds := [.data, .data], laidTests := true, laidLooks := .later }
def RangesumFingerprintsUptoCardSaid : Prop := Claim7.holds Tryz.pinned (.plain (OpenSpec.upto rangesumFingerprintsSpec)) rangesumFingerprintsUptoCard
end Rows
end Go.Proofs.YtlepfnihpdhcaaaGreatDoor
