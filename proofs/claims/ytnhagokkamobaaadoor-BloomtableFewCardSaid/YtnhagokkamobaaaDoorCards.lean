/-
  DERIVED. GIVEN WITH THE SEED: THE CARDS: each row of YtnhagokkamobaaaDoorRows.lean that lists a variable, with what it lists TIED to the program's text (the seventh form; the later family's looks); each row that meets fmt, with fmt's text TOLD by the authors' own Lean function (tested against real Go, not proved from fmt's source: count such statements apart). THE CARD IS WHAT COUNTS. Prove the row's statement (the work); the ties are given (YtnhagokkamobaaaDoorTie.lean); close each card by the builder's one call (the guide's Derived/Test/ToyasCard.lean, 'card_holds'). Laid BY PROGRAM, IN A SANDBOX (cutbox-door.mjs). By AI agents, Wed Nov 11 2026. No macro, syntax, notation, axiom, sorry.
-/
import Derived.Test.YtnhagokkamobaaaDoorRows
import GoSem.ClaimSeven
namespace Go.Proofs.YtnhagokkamobaaaDoor
namespace Rows

/-- THE TIED CARD OF 'kinkeeplaw39.BloomtableSizes'. -/
def bloomtableSizesCard : Claim7 := { stood := { row := bloomtableSizesRow, standIns := [], harness := (true, "3a401cb42700ea7e1518276bdceac8f9c41023cc2bc2518602cbd4a1f9a81a53"), looks := false }, kinds := [], alts := [], laidByText := true, laidKinds := [.data, .data], laidTests := true, laidLooks := .later }
def BloomtableSizesCardSaid : Prop := Claim7.holds Tryd.pinned (.plain (OpenSpec.ofChange bloomtableSizesSpec)) bloomtableSizesCard

/-- THE TIED CARD OF 'kinkeeplaw39.BloomtablePlaces'. -/
def bloomtablePlacesCard : Claim7 := { stood := { row := bloomtablePlacesRow, standIns := [], harness := (true, "3a401cb42700ea7e1518276bdceac8f9c41023cc2bc2518602cbd4a1f9a81a53"), looks := false }, kinds := [], alts := [], laidByText := true, laidKinds := [.data, .data], laidTests := true, laidLooks := .later }
def BloomtablePlacesCardSaid : Prop := Claim7.holds Tryd.pinned (.plain (OpenSpec.ofChange bloomtablePlacesSpec)) bloomtablePlacesCard

/-- THE TIED CARD OF 'kinkeeplaw39.BloomtableFew'. -/
def bloomtableFewCard : Claim7 := { stood := { row := bloomtableFewRow, standIns := [], harness := (true, "3a401cb42700ea7e1518276bdceac8f9c41023cc2bc2518602cbd4a1f9a81a53"), looks := false }, kinds := [], alts := [], laidByText := true, laidKinds := [.data, .data], laidTests := true, laidLooks := .later }
def BloomtableFewCardSaid : Prop := Claim7.holds Tryd.pinned (.plain (OpenSpec.ofChange bloomtableFewSpec)) bloomtableFewCard

/-- THE TIED CARD OF 'kinkeeplaw39.BloomtableKeys'. -/
def bloomtableKeysCard : Claim7 := { stood := { row := bloomtableKeysRow, standIns := [], harness := (true, "3a401cb42700ea7e1518276bdceac8f9c41023cc2bc2518602cbd4a1f9a81a53"), looks := false }, kinds := [], alts := [], laidByText := true, laidKinds := [.data, .data], laidTests := true, laidLooks := .later }
def BloomtableKeysCardSaid : Prop := Claim7.holds Tryd.pinned (.plain (OpenSpec.ofChange bloomtableKeysSpec)) bloomtableKeysCard

/-- THE TIED CARD OF 'kinkeeplaw39.BloomtableGivesBack'. -/
def bloomtableGivesBackCard : Claim7 := { stood := { row := bloomtableGivesBackRow, standIns := [], harness := (true, "3a401cb42700ea7e1518276bdceac8f9c41023cc2bc2518602cbd4a1f9a81a53"), looks := false }, kinds := [], alts := [], laidByText := true, laidKinds := [.data, .data], laidTests := true, laidLooks := .later }
def BloomtableGivesBackCardSaid : Prop := Claim7.holds Tryd.pinned (.plain (OpenSpec.ofChange bloomtableGivesBackSpec)) bloomtableGivesBackCard

/-- THE TIED CARD OF 'kinkeeplaw39.BloomtableOrder'. -/
def bloomtableOrderCard : Claim7 := { stood := { row := bloomtableOrderRow, standIns := [], harness := (true, "3a401cb42700ea7e1518276bdceac8f9c41023cc2bc2518602cbd4a1f9a81a53"), looks := false }, kinds := [], alts := [], laidByText := true, laidKinds := [.data, .data], laidTests := true, laidLooks := .later }
def BloomtableOrderCardSaid : Prop := Claim7.holds Tryd.pinned (.plain (OpenSpec.ofChange bloomtableOrderSpec)) bloomtableOrderCard

/-- THE TIED CARD OF 'kinkeeplaw39.BloomtablePlays'. -/
def bloomtablePlaysCard : Claim7 := { stood := { row := bloomtablePlaysRow, standIns := [], harness := (true, "3a401cb42700ea7e1518276bdceac8f9c41023cc2bc2518602cbd4a1f9a81a53"), looks := false }, kinds := [], alts := [], laidByText := true, laidKinds := [.data, .data], laidTests := true, laidLooks := .later }
def BloomtablePlaysCardSaid : Prop := Claim7.holds Tryd.pinned (.plain (OpenSpec.ofChange bloomtablePlaysSpec)) bloomtablePlaysCard

/-- THE TIED CARD OF 'kinkeeplaw39.BloomtableSubtracts'. -/
def bloomtableSubtractsCard : Claim7 := { stood := { row := bloomtableSubtractsRow, standIns := [], harness := (true, "3a401cb42700ea7e1518276bdceac8f9c41023cc2bc2518602cbd4a1f9a81a53"), looks := false }, kinds := [], alts := [], laidByText := true, laidKinds := [.data, .data], laidTests := true, laidLooks := .later }
def BloomtableSubtractsCardSaid : Prop := Claim7.holds Tryd.pinned (.plain (OpenSpec.ofChange bloomtableSubtractsSpec)) bloomtableSubtractsCard

/-- THE TIED CARD OF 'kinkeeplaw39.BloomtableDecodes'. -/
def bloomtableDecodesCard : Claim7 := { stood := { row := bloomtableDecodesRow, standIns := [], harness := (true, "3a401cb42700ea7e1518276bdceac8f9c41023cc2bc2518602cbd4a1f9a81a53"), looks := false }, kinds := [], alts := [], laidByText := true, laidKinds := [.data, .data], laidTests := true, laidLooks := .later }
def BloomtableDecodesCardSaid : Prop := Claim7.holds Tryd.pinned (.plain (OpenSpec.ofChange bloomtableDecodesSpec)) bloomtableDecodesCard

/-- THE TIED CARD OF 'kinkeeplaw39.BloomtableReads'. -/
def bloomtableReadsCard : Claim7 := { stood := { row := bloomtableReadsRow, standIns := [], harness := (true, "3a401cb42700ea7e1518276bdceac8f9c41023cc2bc2518602cbd4a1f9a81a53"), looks := false }, kinds := [], alts := [], laidByText := true, laidKinds := [.data, .data], laidTests := true, laidLooks := .later }
def BloomtableReadsCardSaid : Prop := Claim7.holds Tryd.pinned (.plain (OpenSpec.ofChange bloomtableReadsSpec)) bloomtableReadsCard

/-- THE SECOND FORM's CARD OF 'kinkeeplaw39.BloomtableSizes'. -/
def bloomtableSizesUptoCard : Claim7 := { stood := { row := bloomtableSizesUptoRow, standIns := [], harness := (true, "3a401cb42700ea7e1518276bdceac8f9c41023cc2bc2518602cbd4a1f9a81a53"), looks := false }, kinds := [], alts := [], laidByText := true, laidKinds := [.data, .data], laidTests := true, laidLooks := .later }
def BloomtableSizesUptoCardSaid : Prop := Claim7.holds Tryd.pinned (.plain (OpenSpec.upto bloomtableSizesSpec)) bloomtableSizesUptoCard

/-- THE SECOND FORM's CARD OF 'kinkeeplaw39.BloomtablePlaces'. -/
def bloomtablePlacesUptoCard : Claim7 := { stood := { row := bloomtablePlacesUptoRow, standIns := [], harness := (true, "3a401cb42700ea7e1518276bdceac8f9c41023cc2bc2518602cbd4a1f9a81a53"), looks := false }, kinds := [], alts := [], laidByText := true, laidKinds := [.data, .data], laidTests := true, laidLooks := .later }
def BloomtablePlacesUptoCardSaid : Prop := Claim7.holds Tryd.pinned (.plain (OpenSpec.upto bloomtablePlacesSpec)) bloomtablePlacesUptoCard

/-- THE SECOND FORM's CARD OF 'kinkeeplaw39.BloomtableFew'. -/
def bloomtableFewUptoCard : Claim7 := { stood := { row := bloomtableFewUptoRow, standIns := [], harness := (true, "3a401cb42700ea7e1518276bdceac8f9c41023cc2bc2518602cbd4a1f9a81a53"), looks := false }, kinds := [], alts := [], laidByText := true, laidKinds := [.data, .data], laidTests := true, laidLooks := .later }
def BloomtableFewUptoCardSaid : Prop := Claim7.holds Tryd.pinned (.plain (OpenSpec.upto bloomtableFewSpec)) bloomtableFewUptoCard

/-- THE SECOND FORM's CARD OF 'kinkeeplaw39.BloomtableKeys'. -/
def bloomtableKeysUptoCard : Claim7 := { stood := { row := bloomtableKeysUptoRow, standIns := [], harness := (true, "3a401cb42700ea7e1518276bdceac8f9c41023cc2bc2518602cbd4a1f9a81a53"), looks := false }, kinds := [], alts := [], laidByText := true, laidKinds := [.data, .data], laidTests := true, laidLooks := .later }
def BloomtableKeysUptoCardSaid : Prop := Claim7.holds Tryd.pinned (.plain (OpenSpec.upto bloomtableKeysSpec)) bloomtableKeysUptoCard

/-- THE SECOND FORM's CARD OF 'kinkeeplaw39.BloomtableGivesBack'. -/
def bloomtableGivesBackUptoCard : Claim7 := { stood := { row := bloomtableGivesBackUptoRow, standIns := [], harness := (true, "3a401cb42700ea7e1518276bdceac8f9c41023cc2bc2518602cbd4a1f9a81a53"), looks := false }, kinds := [], alts := [], laidByText := true, laidKinds := [.data, .data], laidTests := true, laidLooks := .later }
def BloomtableGivesBackUptoCardSaid : Prop := Claim7.holds Tryd.pinned (.plain (OpenSpec.upto bloomtableGivesBackSpec)) bloomtableGivesBackUptoCard

/-- THE SECOND FORM's CARD OF 'kinkeeplaw39.BloomtableOrder'. -/
def bloomtableOrderUptoCard : Claim7 := { stood := { row := bloomtableOrderUptoRow, standIns := [], harness := (true, "3a401cb42700ea7e1518276bdceac8f9c41023cc2bc2518602cbd4a1f9a81a53"), looks := false }, kinds := [], alts := [], laidByText := true, laidKinds := [.data, .data], laidTests := true, laidLooks := .later }
def BloomtableOrderUptoCardSaid : Prop := Claim7.holds Tryd.pinned (.plain (OpenSpec.upto bloomtableOrderSpec)) bloomtableOrderUptoCard

/-- THE SECOND FORM's CARD OF 'kinkeeplaw39.BloomtablePlays'. -/
def bloomtablePlaysUptoCard : Claim7 := { stood := { row := bloomtablePlaysUptoRow, standIns := [], harness := (true, "3a401cb42700ea7e1518276bdceac8f9c41023cc2bc2518602cbd4a1f9a81a53"), looks := false }, kinds := [], alts := [], laidByText := true, laidKinds := [.data, .data], laidTests := true, laidLooks := .later }
def BloomtablePlaysUptoCardSaid : Prop := Claim7.holds Tryd.pinned (.plain (OpenSpec.upto bloomtablePlaysSpec)) bloomtablePlaysUptoCard

/-- THE SECOND FORM's CARD OF 'kinkeeplaw39.BloomtableSubtracts'. -/
def bloomtableSubtractsUptoCard : Claim7 := { stood := { row := bloomtableSubtractsUptoRow, standIns := [], harness := (true, "3a401cb42700ea7e1518276bdceac8f9c41023cc2bc2518602cbd4a1f9a81a53"), looks := false }, kinds := [], alts := [], laidByText := true, laidKinds := [.data, .data], laidTests := true, laidLooks := .later }
def BloomtableSubtractsUptoCardSaid : Prop := Claim7.holds Tryd.pinned (.plain (OpenSpec.upto bloomtableSubtractsSpec)) bloomtableSubtractsUptoCard

/-- THE SECOND FORM's CARD OF 'kinkeeplaw39.BloomtableDecodes'. -/
def bloomtableDecodesUptoCard : Claim7 := { stood := { row := bloomtableDecodesUptoRow, standIns := [], harness := (true, "3a401cb42700ea7e1518276bdceac8f9c41023cc2bc2518602cbd4a1f9a81a53"), looks := false }, kinds := [], alts := [], laidByText := true, laidKinds := [.data, .data], laidTests := true, laidLooks := .later }
def BloomtableDecodesUptoCardSaid : Prop := Claim7.holds Tryd.pinned (.plain (OpenSpec.upto bloomtableDecodesSpec)) bloomtableDecodesUptoCard

/-- THE SECOND FORM's CARD OF 'kinkeeplaw39.BloomtableReads'. -/
def bloomtableReadsUptoCard : Claim7 := { stood := { row := bloomtableReadsUptoRow, standIns := [], harness := (true, "3a401cb42700ea7e1518276bdceac8f9c41023cc2bc2518602cbd4a1f9a81a53"), looks := false }, kinds := [], alts := [], laidByText := true, laidKinds := [.data, .data], laidTests := true, laidLooks := .later }
def BloomtableReadsUptoCardSaid : Prop := Claim7.holds Tryd.pinned (.plain (OpenSpec.upto bloomtableReadsSpec)) bloomtableReadsUptoCard
end Rows
end Go.Proofs.YtnhagokkamobaaaDoor
