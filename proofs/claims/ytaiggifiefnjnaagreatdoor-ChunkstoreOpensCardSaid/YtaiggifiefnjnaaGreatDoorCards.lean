/-
  DERIVED. GIVEN WITH THE SEED: THE CARDS: each row of YtaiggifiefnjnaaGreatDoorRows.lean that lists a variable, with what it lists TIED to the program's text (the seventh form; the later family's looks); each row that meets fmt, with fmt's text TOLD by the authors' own Lean function (tested against real Go, not proved from fmt's source: count such statements apart). THE CARD IS WHAT COUNTS. Prove the row's statement (the work); the ties are given (YtaiggifiefnjnaaGreatDoorTie.lean); close each card by the builder's one call (the guide's Derived/Test/ToyasCard.lean, 'card_holds'). Laid BY PROGRAM, IN A SANDBOX (cutbox-door.mjs). By AI agents, Wed Nov 11 2026. No macro, syntax, notation, axiom, sorry.
-/
import Derived.Test.YtaiggifiefnjnaaGreatDoorRows
import GoSem.ClaimSeven
namespace Go.Proofs.YtaiggifiefnjnaaGreatDoor
namespace Rows

/-- THE TIED CARD OF 'kinkeeplaw19.ChunkstoreOpens'. -/
def chunkstoreOpensCard : Claim7 := { stood := { row := chunkstoreOpensRow, standIns := [], harness := (true, "b8fa62778a3b86420fa3c0e7fc7f7c1e2d7c28dc41e955adaa80b91c52d62af1"), looks := false }, kinds := [], alts := [], laidByText := true, laidKinds := [.data, .data], laidTests := true, laidLooks := .later }
def ChunkstoreOpensCardSaid : Prop := Claim7.holds Tryz.pinned (.plain (OpenSpec.ofChange chunkstoreOpensSpec)) chunkstoreOpensCard

/-- THE TIED CARD OF 'kinkeeplaw19.ChunkstoreSpace'. -/
def chunkstoreSpaceCard : Claim7 := { stood := { row := chunkstoreSpaceRow, standIns := [], harness := (true, "b8fa62778a3b86420fa3c0e7fc7f7c1e2d7c28dc41e955adaa80b91c52d62af1"), looks := false }, kinds := [], alts := [], laidByText := true, laidKinds := [.data, .data], laidTests := true, laidLooks := .later }
def ChunkstoreSpaceCardSaid : Prop := Claim7.holds Tryz.pinned (.plain (OpenSpec.ofChange chunkstoreSpaceSpec)) chunkstoreSpaceCard

/-- THE TIED CARD OF 'kinkeeplaw19.ChunkstoreGets'. -/
def chunkstoreGetsCard : Claim7 := { stood := { row := chunkstoreGetsRow, standIns := [], harness := (true, "b8fa62778a3b86420fa3c0e7fc7f7c1e2d7c28dc41e955adaa80b91c52d62af1"), looks := false }, kinds := [], alts := [], laidByText := true, laidKinds := [.data, .data], laidTests := true, laidLooks := .later }
def ChunkstoreGetsCardSaid : Prop := Claim7.holds Tryz.pinned (.plain (OpenSpec.ofChange chunkstoreGetsSpec)) chunkstoreGetsCard

/-- THE SECOND FORM's CARD OF 'kinkeeplaw19.ChunkstoreOpens'. -/
def chunkstoreOpensUptoCard : Claim7 := { stood := { row := chunkstoreOpensUptoRow, standIns := [], harness := (true, "b8fa62778a3b86420fa3c0e7fc7f7c1e2d7c28dc41e955adaa80b91c52d62af1"), looks := false }, kinds := [], alts := [], laidByText := true, laidKinds := [.data, .data], laidTests := true, laidLooks := .later }
def ChunkstoreOpensUptoCardSaid : Prop := Claim7.holds Tryz.pinned (.plain (OpenSpec.upto chunkstoreOpensSpec)) chunkstoreOpensUptoCard

/-- THE SECOND FORM's CARD OF 'kinkeeplaw19.ChunkstoreSpace'. -/
def chunkstoreSpaceUptoCard : Claim7 := { stood := { row := chunkstoreSpaceUptoRow, standIns := [], harness := (true, "b8fa62778a3b86420fa3c0e7fc7f7c1e2d7c28dc41e955adaa80b91c52d62af1"), looks := false }, kinds := [], alts := [], laidByText := true, laidKinds := [.data, .data], laidTests := true, laidLooks := .later }
def ChunkstoreSpaceUptoCardSaid : Prop := Claim7.holds Tryz.pinned (.plain (OpenSpec.upto chunkstoreSpaceSpec)) chunkstoreSpaceUptoCard

/-- THE SECOND FORM's CARD OF 'kinkeeplaw19.ChunkstoreGets'. -/
def chunkstoreGetsUptoCard : Claim7 := { stood := { row := chunkstoreGetsUptoRow, standIns := [], harness := (true, "b8fa62778a3b86420fa3c0e7fc7f7c1e2d7c28dc41e955adaa80b91c52d62af1"), looks := false }, kinds := [], alts := [], laidByText := true, laidKinds := [.data, .data], laidTests := true, laidLooks := .later }
def ChunkstoreGetsUptoCardSaid : Prop := Claim7.holds Tryz.pinned (.plain (OpenSpec.upto chunkstoreGetsSpec)) chunkstoreGetsUptoCard
end Rows
end Go.Proofs.YtaiggifiefnjnaaGreatDoor
