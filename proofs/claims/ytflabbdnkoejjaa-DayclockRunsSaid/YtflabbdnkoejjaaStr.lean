/- Conversions between bytes and strings, and the argument []byte, opened. -/
import Derived.Test.YtflabbdnkoejjaaOpen
import Derived.Test.YtflabbdnkoejjaaWirePlain
import Derived.Laws.IdiomStrings
namespace Go.Proofs.Ytflabbdnkoejjaa
open Go.ChangeShapes Go.WideShapes Go.ChangeAt Go.RowKit

def strOf (bs : List UInt8) : ByteArray := ⟨bs.toArray⟩

theorem run_str {P : Program} {src dst e : TypeId} (hs : P.underlying src = some (.slice e)) (he : P.underlying e = some (.int .u8)) (hd : P.underlying dst = some .string) (w : World) (A : Option Addr) (cap : Nat) (bs : List UInt8) (h : RowIn w A (B8 bs)) :
    (convert src dst (.slice A bs.length cap)).run P w = .ok (.string (strOf bs)) w := by
  cases A with
  | none =>
    have h0 : bs = [] := by
      cases bs with
      | nil => rfl
      | cons b l =>
        obtain ⟨_, _, hA, _⟩ := h 0 (.int .u8 (b.toNat : Int)) rfl
        cases hA
    subst h0
    rw [run_convert_bytes_string w src dst e _ _ cap hs he hd]
    simp [Conv.bytesToString]
    rfl
  | some a =>
    refine run_convert_bytes_back w src dst e a cap bs hs he hd ?_
    intro j hj
    obtain ⟨b, o, hA, _, hc⟩ := h j (.int .u8 (bs[j].toNat : Int)) (B8_get bs j bs[j] (List.getElem?_eq_getElem hj))
    injection hA with hA
    subst hA
    rw [add_none]
    exact hc

/-- A slice of bytes. -/
theorem open_bytes {H : Type} {enc : TypeId × Value → H} {P : Program} {W : World} {t e : TypeId} {base : Nat} {v : Value} {d : DataW H} {p : List MemPlace} (ht : P.underlying t = some (.slice e)) (he : P.underlying e = some (.int .u8)) (hC : P.cellsOf e = 1) (hv : Value.okWide P W .any base t v)
    (h : DataW.Trod enc P W 0 (fun _ => true) true t v d p) :
    ∃ (A : Option Addr) (cap : Nat) (D : List UInt8), v = .slice A D.length cap ∧ D.length ≤ maxLen ∧ RowIn W A (B8 D) := by
  obtain ⟨A, cap, zs, rfl, hl, hr, hw⟩ := open_row ht he hC hv h
  refine ⟨A, cap, zs.map fun z => UInt8.ofNat z.toNat, by simp, by simpa using hl, ?_⟩
  have e : B8 (zs.map fun z => UInt8.ofNat z.toNat) = zs.map (Value.int .u8) := by
    unfold B8
    rw [List.map_map]
    refine List.map_congr_left fun z hz => ?_
    have := wf_u8 (hw z hz)
    simp only [Function.comp]
    congr 1
    simp
    omega
  rw [e]
  exact hr

end Go.Proofs.Ytflabbdnkoejjaa
