/- A call of Insert, whatever the key. -/
import Derived.Test.YtnhagokkamobaaaDoorBlRun
import Derived.Test.YtnhagokkamobaaaDoorBl3
namespace Go.Proofs.YtnhagokkamobaaaDoor
open Go.RowKit

def insR (key : List UInt8) : Int := if key.length = 32 then 0 else 1
theorem insCall (bt bc cap : Nat) (rest : List Value) (t : BT) (key : List UInt8) (w : World) (hv : Vars w) (ht : TabAt w bt bc cap rest t) :
    Calls Tryd.prog 22 #[Value.pointer (some ⟨bt, 0, none⟩), .string (strOf key)] w fun e w' => e = .returned (Value.int .i64 (insR key)) ∧ Fr [bc] w w' ∧ TabAt w' bt bc cap rest (stepOp t (key, false)) := by
  by_cases hk : key.length = 32
  · refine (insert_any bt bc cap rest t key w hv ht hk).mono ?_
    rintro e w' ⟨rfl, hf, h1⟩
    exact ⟨by simp [insR, hk], hf, by simpa [stepOp, hk] using h1⟩
  · refine (insert_bad bt key w hk).mono ?_
    rintro e w' ⟨rfl, rfl⟩
    exact ⟨by simp [insR, hk], Fr.refl _ _, by simpa [stepOp, hk] using ht⟩
end Go.Proofs.YtnhagokkamobaaaDoor
