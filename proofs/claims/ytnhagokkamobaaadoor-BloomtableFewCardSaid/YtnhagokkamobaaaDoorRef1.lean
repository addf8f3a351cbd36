/- Contracts of the reference of layer 1: Number, Zigzag, Unzigzag. -/
import Derived.Test.YtnhagokkamobaaaDoorWire1
import Derived.Test.YtnhagokkamobaaaDoorRdPlain
namespace Go.Proofs.YtnhagokkamobaaaDoor
open Go.RowKit

theorem byte_add (m : Nat) : ((m : Int) % 128 + 128) = ((UInt8.ofNat (m % 128 + 128)).toNat : Int) := by
  rw [u8_toNat _ (by omega)]
  omega

set_option maxRecDepth 100000 in
set_option maxHeartbeats 2000000 in
theorem refNumber_any (n : Nat) (w : World) (hn : U64 n) : Calls Tryd.prog 59 #[.int .u64 (n : Int)] w (NewRow (num n) w) := by
  have hnl := num_length n hn
  have HN := Lib.hid hn
  clear hn
  go_enter Tryd.func59, Tryd.ntmps59
  go_wp2_with fail
  go_loopw [0, 3] (fun i b wr => ∃ (m : Nat) (cs : List UInt8), U64 m ∧ i = .int .u64 (m : Int) ∧ num n = cs ++ num m ∧ Fr [] w wr ∧ wr.ownsRow w.heap.size 5 1 b cs.length (B8 cs)) (fun i _ _ => (intOf i).toNat)
  case atStart => exact ⟨n, [], HN.out, rfl, rfl, (Fr.refl _ _).alloc _, World.ownsRow_made _ #[] 0 (Nat.le_refl _) (Nat.zero_le _) rfl⟩
  case round =>
    obtain ⟨m, cs, hm, rfl, he, hf, hown⟩ := hrel
    have hsz := hf.size
    have HC : Hid (cs.length + 1 ≤ 137438953472) := by have h1 := congrArg List.length he; rw [List.length_append] at h1; show _ ≤ _; omega
    have HG := Lib.hid (And.intro hf hown)
    have HE := Lib.hid he
    have HM := Lib.hid hm
    have hmI : (m : Int) ≤ 18446744073709551615 := by unfold U64 at hm; omega
    clear hf hown he hm
    obtain ⟨A, c, rfl⟩ := ownsRow_form HG.out.2
    by_cases hlt : m < 128
    · go_wp2_with (at_builtin; refine wpList_push el_u8 rfl (.tmp 16) (.tmp 19) rfl w.heap.size _ _ _ (.int .u8 (m : Int)) rfl HG.out.2 rfl rfl HC.out (by omega) 5 ?_; intro v' w1 hown1 hg1 hb1)
      go_ret
      have hf1 : Fr [] w w1 := fr_push HG.out.1 HG.out.2 hg1
      obtain ⟨A1, c1, rfl⟩ := ownsRow_form hown1
      rw [byte_low m (by omega)] at hown1
      refine newRow_of (cs ++ [UInt8.ofNat m]) ?_ ⟨A1, c1, by simp, hf1, ?_⟩
      · rw [HE.out, num_small m hlt]
      · rw [B8_append, List.length_append]; exact hown1
    · have hor := byte_add m
      obtain ⟨y, hy⟩ : ∃ y : UInt8, y = UInt8.ofNat (m % 128 + 128) := ⟨_, rfl⟩
      rw [← hy] at hor
      have hyb := UInt8.toNat_lt y
      have HY := Lib.hid hy
      clear hy
      have hge : (127 : Int) < (m : Int) := by omega
      go_wp2_with (at_builtin; refine wpList_push el_u8 rfl (.tmp 7) (.tmp 12) rfl w.heap.size _ _ _ (.int .u8 (y.toNat : Int)) rfl HG.out.2 rfl rfl HC.out (by omega) 5 ?_; intro v' w1 hown1 hg1 hb1)
      go_roundw
      case rel =>
        refine ⟨m / 128, cs ++ [y], ?_, by go_num, ?_, fr_push HG.out.1 HG.out.2 hg1, ?_⟩
        · have := HM.out; unfold U64 at this ⊢; omega
        · rw [HE.out, num_big m hlt, List.append_assoc, HY.out]; rfl
        · rw [B8_append, List.length_append]; exact hown1
      case measure => simp [intOf]; omega

set_option maxRecDepth 100000 in
theorem refZigzag_any (n : Int) (w : World) (h : Fit64 n) : Calls Tryd.prog 60 #[Value.int .i64 n] w fun e w' => e = .returned (.int .u64 (zig n : Int)) ∧ w = w' := by
  have h0 := h.1
  have h1 := h.2
  clear h
  by_cases hn : n < 0
  · go_enter Tryd.func60, Tryd.ntmps60
    go_wp2_with fail
    go_ret
    refine ⟨ret_int ?_, rfl⟩
    unfold zig
    rw [if_pos hn]
    omega
  · replace hn := Int.not_lt.1 hn
    go_enter Tryd.func60, Tryd.ntmps60
    go_wp2_with fail
    go_ret
    refine ⟨ret_int ?_, rfl⟩
    unfold zig
    rw [if_neg (by omega)]
    omega

end Go.Proofs.YtnhagokkamobaaaDoor
