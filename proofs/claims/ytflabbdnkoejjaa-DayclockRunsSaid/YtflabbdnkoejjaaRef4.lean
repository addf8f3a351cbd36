/- Contracts of the reference's read: bools. -/
import Derived.Test.YtflabbdnkoejjaaRef3
namespace Go.Proofs.Ytflabbdnkoejjaa
open Go.RowKit

set_option maxRecDepth 100000 in
set_option maxHeartbeats 4000000 in
theorem refread_bool_end (A : Option Addr) (c : Nat) (D : List UInt8) (off : Nat) (most : Int) (w : World) (ho : D.length ≤ off) (_hD : D.length ≤ 4294967296) :
    Calls Try.prog 60 #[.slice A D.length c, Value.int .i64 (off : Int), Value.int .i64 3, Value.int .i64 most] w fun e w' => e = .returned (.tuple #[.agg #[Value.int .i64 3, .int .u64 0, Value.int .i64 0, Value.bool false, .string ⟨#[]⟩, Value.int .i64 most], Value.int .i64 (off : Int), Value.int .i64 3]) ∧ Fr [] w w' := by
  have hlI : (D.length : Int) ≤ (off : Int) := by omega
  clear ho
  go_enter Try.func60, Try.ntmps60
  go_wp2_with fail
  exact bodyPost_ret (v := .tuple #[.agg #[Value.int .i64 3, .int .u64 0, Value.int .i64 0, Value.bool false, .string ⟨#[]⟩, Value.int .i64 most], Value.int .i64 (off : Int), Value.int .i64 3]) (by simp [results, Try.results60, go_sem]) rfl ⟨rfl, ((Fr.refl _ _).alloc _).alloc _⟩

set_option maxRecDepth 100000 in
set_option maxHeartbeats 4000000 in
theorem refread_bool_bad (A : Option Addr) (c : Nat) (D : List UInt8) (off : Nat) (most : Int) (w : World) (hrow : RowIn w A (B8 D)) (x : UInt8) (hx : D[off]? = some x) (hx1 : 1 < x.toNat) (hD : D.length ≤ 4294967296) :
    Calls Try.prog 60 #[.slice A D.length c, Value.int .i64 (off : Int), Value.int .i64 3, Value.int .i64 most] w fun e w' => e = .returned (.tuple #[.agg #[Value.int .i64 3, .int .u64 0, Value.int .i64 0, Value.bool false, .string ⟨#[]⟩, Value.int .i64 most], Value.int .i64 (off : Int), Value.int .i64 3]) ∧ Fr [] w w' := by
  have hlt := (List.getElem?_eq_some_iff.1 hx).1
  have hlI : (off : Int) < (D.length : Int) := by omega
  have hDI : (D.length : Int) ≤ 4294967296 := by omega
  obtain ⟨g, o, hA, hgs, hc⟩ := hrow off _ (B8_get D _ x hx)
  subst hA
  have hxb := UInt8.toNat_lt x
  have t2 : 1 < (x.toNat : Int) := by omega
  clear hx hrow hD hlt
  go_enter Try.func60, Try.ntmps60
  go_wp2_with fail
  exact bodyPost_ret (v := .tuple #[.agg #[Value.int .i64 3, .int .u64 0, Value.int .i64 0, Value.bool false, .string ⟨#[]⟩, Value.int .i64 most], Value.int .i64 (off : Int), Value.int .i64 3]) (by simp [results, Try.results60, go_sem]) rfl ⟨rfl, ((Fr.refl _ _).alloc _).alloc _⟩

set_option maxRecDepth 100000 in
set_option maxHeartbeats 4000000 in
theorem refread_bool_some (A : Option Addr) (c : Nat) (D : List UInt8) (off : Nat) (most : Int) (w : World) (hrow : RowIn w A (B8 D)) (x : UInt8) (hx : D[off]? = some x) (hx1 : x.toNat ≤ 1) (hD : D.length ≤ 4294967296) :
    Calls Try.prog 60 #[.slice A D.length c, Value.int .i64 (off : Int), Value.int .i64 3, Value.int .i64 most] w fun e w' => e = .returned (.tuple #[.agg #[Value.int .i64 3, .int .u64 0, Value.int .i64 0, Value.bool (x.toNat == 1), .string ⟨#[]⟩, Value.int .i64 most], Value.int .i64 ((off + 1 : Nat) : Int), Value.int .i64 0]) ∧ Fr [] w w' := by
  have hlt := (List.getElem?_eq_some_iff.1 hx).1
  have hlI : (off : Int) < (D.length : Int) := by omega
  have hDI : (D.length : Int) ≤ 4294967296 := by omega
  obtain ⟨g, o, hA, hgs, hc⟩ := hrow off _ (B8_get D _ x hx)
  subst hA
  have hxb := UInt8.toNat_lt x
  have t2 : (x.toNat : Int) ≤ 1 := by omega
  clear hx hrow hD hlt
  go_enter Try.func60, Try.ntmps60
  go_wp2_with fail
  refine bodyPost_ret (v := .tuple #[.agg #[Value.int .i64 3, .int .u64 0, Value.int .i64 0, Value.bool ((x.toNat : Int) == 1), .string ⟨#[]⟩, Value.int .i64 most], Value.int .i64 ((off : Int) + 1), Value.int .i64 0]) (by simp [results, Try.results60, go_sem]) rfl ⟨?_, ((Fr.refl _ _).alloc _).alloc _⟩
  have e1 : ((x.toNat : Int) == 1) = (x.toNat == 1) := by
    have : x.toNat = 0 ∨ x.toNat = 1 := by omega
    rcases this with h | h <;> simp [h]
  have e2 : ((off + 1 : Nat) : Int) = (off : Int) + 1 := by omega
  rw [e1, e2]

end Go.Proofs.Ytflabbdnkoejjaa
