/- Lists of messages in memory. -/
import Derived.Test.YtlepfnihpdhcaaaGreatDoorCon
namespace Go.Proofs.YtlepfnihpdhcaaaGreatDoor
open Go.RowKit
abbrev MS (ms : List (Option Addr × Nat × List UInt8)) : List Value := ms.map fun m => .slice m.1 m.2.2.length m.2.1
theorem MS_at {ms : List (Option Addr × Nat × List UInt8)} {i : Nat} {m : Option Addr × Nat × List UInt8} (h : ms[i]? = some m) : (MS ms)[i]? = some (.slice m.1 m.2.2.length m.2.1) := by simp [h]
def MsRows (ms : List (Option Addr × Nat × List UInt8)) (w : World) : Prop := ∀ m ∈ ms, RowIn w m.1 (B8 m.2.2)
end Go.Proofs.YtlepfnihpdhcaaaGreatDoor
