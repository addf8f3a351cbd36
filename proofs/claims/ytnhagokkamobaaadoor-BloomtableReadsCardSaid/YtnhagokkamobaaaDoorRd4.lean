/- Contracts of the reader's methods. -/
import Derived.Test.YtnhagokkamobaaaDoorRd3
import Derived.Test.YtnhagokkamobaaaDoorWire1
namespace Go.Proofs.YtnhagokkamobaaaDoor
open Go.RowKit
variable {X : Option Addr × Nat}

theorem Rd.Ok.uint {r : Rd} (h : r.Ok) (hn : ∀ n m, rdNum r.D r.off = some (n, m) → m ≤ r.D.length) : r.uint.2.Ok := by
  unfold Rd.uint
  split
  · cases hd : rdNum r.D r.off with
    | none => exact ⟨h.off, h.len⟩
    | some p => exact ⟨hn p.1 p.2 hd, h.len⟩
  · exact h

theorem rdNum_le (D : List UInt8) (off n m : Nat) (h : rdNum D off = some (n, m)) : off < m ∧ m ≤ D.length ∧ U64 n := by
  unfold rdNum at h
  split at h
  · cases h
  · rename_i b hb
    split at h
    · rename_i hc
      simp only [Option.some.injEq, Prod.mk.injEq] at h
      obtain ⟨rfl, rfl⟩ := h
      have hl := (List.getElem?_eq_some_iff.1 hb).1
      rw [List.length_drop] at hl
      refine ⟨by omega, by omega, ?_⟩
      unfold U64
      rw [accN_succ _ _ b hb]
      have h1 := accN_lt (ahead (D.drop off)) (D.drop off)
      by_cases h9 : ahead (D.drop off) = 9
      · have hb1 : b.toNat ≤ 1 := by omega
        rw [h9] at h1 ⊢
        have h2 : b.toNat % 128 ≤ 1 := by omega
        have h3 : b.toNat % 128 * 128 ^ 9 ≤ 1 * 128 ^ 9 := Nat.mul_le_mul_right _ h2
        have h4 : 128 ^ 9 + 1 * 128 ^ 9 ≤ 18446744073709551616 := by decide
        omega
      · have h2 : b.toNat % 128 ≤ 127 := by omega
        have h3 : b.toNat % 128 * 128 ^ (ahead (D.drop off)) ≤ 127 * 128 ^ (ahead (D.drop off)) := Nat.mul_le_mul_right _ h2
        have h4 : 128 ^ (ahead (D.drop off)) ≤ 128 ^ 8 := Nat.pow_le_pow_right (by omega) (by omega)
        have h5 : 128 * 128 ^ 8 < 18446744073709551616 := by decide
        omega
    · cases h

theorem rUint (br : Nat) (r : Rd) (w : World) (hr : RdAt X w br r) (hk : r.Ok) :
    Calls Tryd.prog 62 #[Value.pointer (some ⟨br, 0, none⟩)] w fun e w' => e = .returned (.int .u64 (r.uint.1 : Int)) ∧ Fr [br] w w' ∧ RdAt X w' br r.uint.2 := by
  have hmf : ∀ (fn : Fn) (first cap : Array Value) (w : World), (Instr.makeFunc fn first cap).run Tryd.prog w = .ok (.func fn first cap) w := fun _ _ _ _ => rfl
  have H := Lib.hid (And.intro hr hk)
  clear hr hk
  by_cases h0 : r.err = 0
  · have H0 := Lib.hid h0
    clear h0
    go_enter Tryd.func62, Tryd.ntmps62
    go_wp2_with fail
    refine (readU64_ok br r _ H.out.1 H.out.2 H0.out).mono ?_
    rintro e w1 ⟨rfl, hf, hr1⟩
    have H1 := Lib.hid (And.intro hf hr1)
    clear hf hr1
    go_wp2_with fail
    go_ret
    exact ⟨rfl, H1.out⟩
  · have H0 := Lib.hid h0
    clear h0
    go_enter Tryd.func62, Tryd.ntmps62
    go_wp2_with fail
    refine (readU64_err br r _ _ H.out.1 H0.out).mono ?_
    rintro e w1 ⟨rfl, hf, hr1⟩
    have H1 := Lib.hid (And.intro (hf.mono (S' := [br]) (by simp)) hr1)
    clear hf hr1
    have e : r.uint = (0, r) := by unfold Rd.uint; rw [if_neg H0.out]
    have HE := Lib.hid e
    clear e
    go_wp2_with fail
    go_ret
    rw [HE.out]
    exact ⟨rfl, H1.out⟩

/-- The int with a zigzag number. -/
def unzig (n : Nat) : Int := if n % 2 = 1 then -((n / 2 : Nat) : Int) - 1 else ((n / 2 : Nat) : Int)

theorem unzig_fit (n : Nat) (h : U64 n) : Fit64 (unzig n) := by
  unfold U64 at h
  unfold unzig Fit64
  split <;> omega

theorem unzig_zig (n : Int) : unzig (zig n) = n := by
  unfold unzig zig
  by_cases h : n < 0
  · simp only [h, if_true]
    rw [if_pos (by omega)]
    omega
  · simp only [h, if_false]
    rw [if_neg (by omega)]
    omega

set_option maxRecDepth 100000 in
theorem unzigzag_any (n : Nat) (w : World) (h : U64 n) : Calls Tryd.prog 77 #[.int .u64 (n : Int)] w fun e w' => e = .returned (Value.int .i64 (unzig n)) ∧ w = w' := by
  have hI : (n : Int) ≤ 18446744073709551615 := by unfold U64 at h; omega
  have hI0 : (0 : Int) ≤ (n : Int) := by omega
  clear h
  by_cases h1 : n % 2 = 1
  · have hb : ((n : Int) % 2 == 1) = true := by simp; omega
    go_enter Tryd.func77, Tryd.ntmps77
    go_wp2_with fail
    go_ret
    refine ⟨ret_int ?_, rfl⟩
    unfold unzig
    rw [if_pos h1]
    omega
  · have hb : ((n : Int) % 2 == 1) = false := by simp; omega
    go_enter Tryd.func77, Tryd.ntmps77
    go_wp2_with fail
    go_ret
    refine ⟨ret_int ?_, rfl⟩
    unfold unzig
    rw [if_neg h1]
    omega

def Rd.int (r : Rd) : Int × Rd := (unzig r.uint.1, r.uint.2)

theorem Rd.uint_u64 (r : Rd) : U64 r.uint.1 := by
  unfold Rd.uint
  split
  · cases hd : rdNum r.D r.off with
    | none => show 0 < 18446744073709551616; decide
    | some p => exact (rdNum_le _ _ p.1 p.2 hd).2.2
  · show 0 < 18446744073709551616; decide

theorem rInt (br : Nat) (r : Rd) (w : World) (hr : RdAt X w br r) (hk : r.Ok) :
    Calls Tryd.prog 63 #[Value.pointer (some ⟨br, 0, none⟩)] w fun e w' => e = .returned (Value.int .i64 r.int.1) ∧ Fr [br] w w' ∧ RdAt X w' br r.int.2 := by
  have H := Lib.hid (And.intro hr hk)
  clear hr hk
  go_enter Tryd.func63, Tryd.ntmps63
  go_wp2_with fail
  refine (rUint br r _ H.out.1 H.out.2).mono ?_
  rintro e w1 ⟨rfl, hf, hr1⟩
  have H1 := Lib.hid (And.intro hf hr1)
  clear hf hr1
  go_wp2_with fail
  refine (unzigzag_any _ _ r.uint_u64).mono ?_
  rintro e w' ⟨rfl, rfl⟩
  go_wp2_with fail
  go_ret
  exact ⟨rfl, H1.out⟩


end Go.Proofs.YtnhagokkamobaaaDoor
