/- Contracts of the writer of layer 1. -/
import Derived.Test.YtflabbdnkoejjaaProg
import Derived.Test.YtflabbdnkoejjaaWirePlain
namespace Go.Proofs.Ytflabbdnkoejjaa
open Go.RowKit

theorem el_u8 : Elem Try.prog 44 5 (.int .u8 0) 1 1 := ⟨Try.underlying44, by kernel_rfl, rfl, by omega, by omega⟩


theorem zigzag_any (n : Int) (w : World) (h0 : -9223372036854775808 ≤ n) (h1 : n ≤ 9223372036854775807) :
    Calls Try.prog 57 #[Value.int .i64 n] w fun e w' => e = .returned (.int .u64 (zig n : Int)) ∧ w = w' := by
  by_cases hn : n < 0
  · go_enter Try.func57, Try.ntmps57
    go_wp2
    go_ret
    refine ⟨ret_int ?_, rfl⟩
    unfold zig
    rw [if_pos hn]
    omega
  · replace hn := Int.not_lt.1 hn
    go_enter Try.func57, Try.ntmps57
    go_wp2
    go_ret
    refine ⟨ret_int ?_, rfl⟩
    unfold zig
    rw [if_neg (by omega)]
    omega

/-- What an append leaves: the new slice, its row, and that only the old row's block, or new ones, have been written. -/
structure Grew (base : Nat) (v : Value) (bs : List UInt8) (w : World) (v' : Value) (w' : World) : Prop where
  own : w'.ownsRow base 5 1 v' bs.length (B8 bs)
  gr : w.grownBy w' v.ownBlock
  blk : v'.ownBlock = v.ownBlock ∨ ∃ g, v'.ownBlock = some g ∧ w.heap.size ≤ g

theorem Grew.step {base : Nat} {v v' v'' : Value} {bs cs : List UInt8} {w w' w'' : World} (h : Grew base v bs w v' w') (k : Grew base v' cs w' v'' w'') : Grew base v cs w v'' w'' := by
  refine ⟨k.own, ⟨k.gr.os.trans h.gr.os, k.gr.tape.trans h.gr.tape, k.gr.output.trans h.gr.output, Nat.le_trans h.gr.size k.gr.size, fun i hi hn => ?_⟩, ?_⟩
  · refine (k.gr.block i (Nat.lt_of_lt_of_le hi h.gr.size) (fun e => ?_)).trans (h.gr.block i hi hn)
    rcases h.blk with hb | ⟨g, hb, hg⟩
    · exact hn (e.trans hb)
    · rw [hb] at e
      injection e with e
      omega
  · rcases k.blk with hb | ⟨g, hb, hg⟩
    · rcases h.blk with hb' | ⟨g, hb', hg⟩
      · exact .inl (hb.trans hb')
      · exact .inr ⟨g, hb.trans hb', hg⟩
    · exact .inr ⟨g, hb, Nat.le_trans h.gr.size hg⟩

theorem Grew.refl {base : Nat} {v : Value} {bs : List UInt8} {w : World} (h : w.ownsRow base 5 1 v bs.length (B8 bs)) : Grew base v bs w v w := ⟨h, World.grownBy.refl w _, .inl rfl⟩

theorem Grew.size {base : Nat} {v v' : Value} {bs : List UInt8} {w w' : World} (h : Grew base v bs w v' w') : w.heap.size ≤ w'.heap.size := h.gr.size

theorem Grew.push {base : Nat} {v v' : Value} {bs : List UInt8} {b : UInt8} {w w' : World} (h : w'.ownsRow base 5 1 v' (bs.length + 1) (B8 bs ++ [.int .u8 (b.toNat : Int)])) (hg : w.grownBy w' v.ownBlock) (hb : v'.ownBlock = v.ownBlock ∨ v'.ownBlock = some (w.heap.size + 1)) : Grew base v (bs ++ [b]) w v' w' := by
  refine ⟨?_, hg, ?_⟩
  · rw [B8_append, List.length_append]; exact h
  · rcases hb with hb | hb
    · exact .inl hb
    · exact .inr ⟨_, hb, by omega⟩

set_option maxRecDepth 100000 in
set_option maxHeartbeats 2000000 in
theorem extend_any (base n : Nat) (v : Value) (bs : List UInt8) (w : World) (hn : U64 n) (hl : bs.length + 10 ≤ 4294967296) (hb : base ≤ w.heap.size) (hown : w.ownsRow base 5 1 v bs.length (B8 bs)) :
    Calls Try.prog 76 #[v, .int .u64 (n : Int)] w fun e w' => ∃ v', e = .returned v' ∧ Grew base v (bs ++ num n) w v' w' := by
  have H0 := Lib.hid (Grew.refl hown)
  have hnl := num_length n hn
  have HN := Lib.hid hn
  have HL := Lib.hid hl
  clear hown hn hl
  go_enter Try.func76, Try.ntmps76
  go_wp2_with fail
  go_loopw [0, 1] (fun b i wr => ∃ (m : Nat) (cs : List UInt8), U64 m ∧ i = .int .u64 (m : Int) ∧ bs ++ num n = cs ++ num m ∧ Grew base v cs w b wr) (fun _ i _ => (intOf i).toNat)
  case atStart => exact ⟨n, bs, HN.out, rfl, rfl, H0.out⟩
  case round =>
    obtain ⟨m, cs, hm, rfl, he, hg⟩ := hrel
    have hsz := hg.size
    have HC : Hid (cs.length + 1 ≤ 137438953472) := by have h1 := congrArg List.length he; have h2 := HL.out; rw [List.length_append, List.length_append] at h1; show _ ≤ _; omega
    have HG := Lib.hid hg
    have HE := Lib.hid he
    have HM := Lib.hid hm
    have hmI : (m : Int) ≤ 18446744073709551615 := by unfold U64 at hm; omega
    clear hg he hm
    obtain ⟨A, c, rfl⟩ := ownsRow_form HG.out.own
    by_cases hlt : m < 128
    · go_wp2_with (at_builtin; refine wpList_push el_u8 rfl (.tmp 15) (.tmp 18) rfl base _ _ _ (.int .u8 (m : Int)) rfl HG.out.own rfl rfl HC.out (by omega) 5 ?_; intro v' w1 hown1 hg1 hb1)
      go_ret
      refine ⟨v', rfl, HG.out.step ?_⟩
      rw [HE.out, num_small m hlt]
      exact Grew.push (by rw [byte_low m (by omega)] at hown1; exact hown1) hg1 hb1
    · have hor := byte_or m
      have hge : (128 : Int) ≤ (m : Int) := by omega
      go_wp2_with (at_builtin; refine wpList_push el_u8 rfl (.tmp 7) (.tmp 11) rfl base _ _ _ (.int .u8 ((UInt8.ofNat (m % 128 + 128)).toNat : Int)) rfl HG.out.own rfl rfl HC.out (by omega) 5 ?_; intro v' w1 hown1 hg1 hb1)
      go_roundw
      case rel =>
        refine ⟨m / 128, cs ++ [UInt8.ofNat (m % 128 + 128)], ?_, by go_num, ?_, HG.out.step (Grew.push hown1 hg1 hb1)⟩
        · have := HM.out; unfold U64 at this ⊢; omega
        · rw [HE.out, num_big m hlt, List.append_assoc]; rfl
      case measure => simp [intOf]; omega

end Go.Proofs.Ytflabbdnkoejjaa
