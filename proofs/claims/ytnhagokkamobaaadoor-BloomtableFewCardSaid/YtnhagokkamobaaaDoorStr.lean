/- Conversions between bytes and strings, and the argument []byte, opened. -/
import Derived.Test.YtnhagokkamobaaaDoorOpen
import Derived.Test.YtnhagokkamobaaaDoorWirePlain
import Derived.Test.YtnhagokkamobaaaDoorBytes
namespace Go.Proofs.YtnhagokkamobaaaDoor
open Go.ChangeShapes Go.WideShapes Go.ChangeAt Go.RowKit

/-- A slice of bytes. -/
theorem open_bytes {H : Type} {enc : TypeId × Value → H} {P : Program} {W : World} {t e : TypeId} {base : Nat} {v : Value} {d : DataW H} {p : List MemPlace} (ht : P.underlying t = some (.slice e)) (he : P.underlying e = some (.int .u8)) (hC : P.cellsOf e = 1) (hv : Value.okWide P W .any base t v)
    (h : DataW.Trod enc P W 0 (fun _ => true) true t v d p) :
    ∃ (A : Option Addr) (cap : Nat) (D : List UInt8), v = .slice A D.length cap ∧ D.length ≤ maxLen ∧ RowIn W A (B8 D) := by
  obtain ⟨A, cap, zs, rfl, hl, hr, hw⟩ := open_row ht he hC hv h
  refine ⟨A, cap, zs.map fun z => UInt8.ofNat z.toNat, by simp, by simpa using hl, ?_⟩
  have e : B8 (zs.map fun z => UInt8.ofNat z.toNat) = zs.map (Value.int .u8) := by
    unfold B8
    rw [List.map_map]
    refine List.map_congr_left fun z hz => ?_
    have := wf_u8 (hw z hz)
    simp only [Function.comp]
    congr 1
    simp
    omega
  rw [e]
  exact hr

end Go.Proofs.YtnhagokkamobaaaDoor
