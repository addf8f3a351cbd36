/- DayclockDecodes returns true for every input: Decode accepts exactly the valid encodings, and returns the clock with this encoding. -/
import Derived.Test.YtflabbdnkoejjaaDcBytes
import Derived.Test.YtflabbdnkoejjaaDcDec2
import Derived.Test.YtflabbdnkoejjaaDcEnc
import Derived.Test.YtflabbdnkoejjaaDcAwake
import Derived.Test.YtflabbdnkoejjaaStr
import Derived.Deep.RegionWith
namespace Go.Proofs.Ytflabbdnkoejjaa
open Go.RowKit

theorem run_str_x (w : World) (A : Option Addr) (cap : Nat) (bs : List UInt8) (h : RowIn w A (B8 bs)) : (convert 44 9 (.slice A bs.length cap)).run Try.prog w = .ok (.string (strOf bs)) w :=
  run_str Try.underlying44 Try.underlying5 Try.underlying9 w A cap bs h

set_option maxHeartbeats 4000000 in
set_option maxRecDepth 100000 in
theorem decodes_long (A : Option Addr) (n cap : Nat) (w : World) (hn : 200 < n) : Calls Try.prog 9 #[.slice A n cap] w (OkTrue w) := by
  have hd : decide (200 < (n : Int)) = true := by simp; omega
  go_enter Try.func9, Try.ntmps9
  go_wp2_with fail
  refine (awake_any _).mono ?_
  rintro e w1 ⟨rfl, hf1⟩
  have H1 := Lib.hid hf1
  clear hf1
  go_wp2_with fail
  refine (awake_any _).mono ?_
  rintro e w2 ⟨rfl, hf2⟩
  have H2 := Lib.hid (H1.out.trans hf2)
  clear hf2 H1
  go_wp2_with fail
  go_ret
  exact ⟨rfl, H2.out⟩

theorem dec_fits (D : List UInt8) (hD : D.length ≤ 4294967296) (hv : (decAll D).valid = true) : (decAll D).c.Fits := by
  have e := dec_toR D hD hv
  have a := dec_along D hD
  have h1 : (decAll D).c.first = (rclk D).first := congrArg RClk.first e
  have h2 : (decAll D).c.day = (rclk D).day := congrArg RClk.day e
  have h3 : (decAll D).c.leap = (rclk D).leap := congrArg RClk.leap e
  have h4 : (decAll D).c.quorum = (rclk D).quorum := congrArg RClk.quorum e
  have h5 : (decAll D).c.own = (rclk D).own := congrArg RClk.own e
  have h6 : (decAll D).c.ref = (rclk D).ref := congrArg RClk.ref e
  refine ⟨a.ok, ?_, ?_, ?_, ?_, ?_, ?_, ?_⟩
  · rw [h1]; exact Rd.int_fit _
  · rw [h2]; exact Rd.int_fit _
  · rw [h3]; exact Rd.int_fit _
  · rw [h4]; exact Rd.int_fit _
  · rw [h5]; exact Rd.int_fit _
  · rw [h6]
    show Fit64 (if _ then _ else _)
    split
    · exact Rd.int_fit _
    · unfold Fit64; decide
  · intro x hx
    have := (DSt.told_steps { r := ((decHead ⟨D, 0, 0, 0⟩).1.count 12).2, c := (decHead ⟨D, 0, 0, 0⟩).2, valid := true, last := -1 } ⟨decHead_told ⟨Nat.zero_le _, hD⟩, (decHead_fit _).1, (decHead_fit _).2⟩ ((decHead ⟨D, 0, 0, 0⟩).1.count 12).1).1 x hx
    unfold Fit64
    omega

theorem decErr_end (D : List UInt8) (h : (rdec D).1.end_ ≠ 0) : decErr D = (rdec D).1.end_ := by
  unfold decErr
  rw [dec_r, if_pos h]
theorem decErr_ok (D : List UInt8) (hD : D.length ≤ 4294967296) (h : (rdec D).1.end_ = 0) (hv : (rclk D).Valid) : decErr D = 0 := by
  unfold decErr
  rw [dec_r, if_neg (fun hn => hn h), if_pos ((dec_valid D hD).2 hv)]
theorem decErr_bad (D : List UInt8) (hD : D.length ≤ 4294967296) (h : (rdec D).1.end_ = 0) (hv : ¬ (rclk D).Valid) : decErr D = 3 := by
  unfold decErr
  rw [dec_r, if_neg (fun hn => hn h), if_neg (fun hh => hv ((dec_valid D hD).1 hh))]

set_option maxHeartbeats 8000000 in
set_option maxRecDepth 100000 in
theorem decodes_ok (A : Option Addr) (cap : Nat) (D : List UInt8) (w : World) (hn : D.length ≤ 200) (hrow : RowIn w A (B8 D)) : Calls Try.prog 9 #[.slice A D.length cap] w (OkTrue w) := by
  have hd : decide (200 < (D.length : Int)) = false := by simp; omega
  have H := Lib.hid hrow
  have hD : D.length ≤ 4294967296 := by omega
  clear hrow
  go_enter Try.func9, Try.ntmps9
  go_wp2_with fail
  refine (awake_any _).mono ?_
  rintro e w1 ⟨rfl, hf1⟩
  have H1 := Lib.hid hf1
  clear hf1
  go_wp2_with fail
  refine (decode_any A cap D _ hD (H.out.fr0 H1.out)).mono ?_
  rintro e w2 ⟨hf2, he2⟩
  have H2 := Lib.hid (H1.out.trans hf2)
  clear hf2 H1
  by_cases hend : (rdec D).1.end_ = 0
  · by_cases hv : (rclk D).Valid
    · rw [if_pos (decErr_ok D hD hend hv)] at he2
      obtain ⟨bc, hbc, rfl, hat⟩ := he2
      have HA := Lib.hid hat
      have HE := Lib.hid (And.intro hend hv)
      clear hat hend hv
      go_wp2_with fail
      refine (refDecode_any A cap D _ hD (H.out.fr0 H2.out)).mono ?_
      rintro e w3 ⟨hf3, _, _, he3⟩
      obtain ⟨Ar, cr, rfl, hrr⟩ := he3 HE.out.1 HE.out.2
      clear he3
      have hval := (dec_valid D hD).2 HE.out.2
      have hvb : (decAll D).valid = true := by
        rw [Bool.and_eq_true] at hval
        exact hval.1
      have htoR := dec_toR D hD hvb
      have HF := Lib.hid (And.intro (dec_fits D hD hvb) (show (decAll D).c.enc = D by rw [Clk.enc_toR, htoR]; exact dec_bytes D HE.out.1))
      have hday : (decAll D).c.day = (rclk D).day := congrArg RClk.day htoR
      have hown : (decAll D).c.own = (rclk D).own := congrArg RClk.own htoR
      have H3 := Lib.hid (And.intro (H2.out.trans hf3) (HA.out.fr hf3 (by simp)))
      clear hval hvb htoR hrr hf3 HA H2
      generalize (decAll D).c = c at HF hday hown H3
      obtain ⟨m, HM⟩ : ∃ m, Hid (m = rclk D) := ⟨_, rfl⟩
      rw [← HM.out] at hday hown ⊢
      obtain ⟨first, day, leap, quorum, own, has, ref, told⟩ := m
      simp only at hday hown
      subst hday hown
      clear HM
      have e8 : ((⟨first, c.day, leap, quorum, c.own, has, ref, told⟩ : RClk).cells Ar cr).toArray = #[Value.int .i64 first, Value.int .i64 c.day, Value.int .i64 leap, Value.int .i64 quorum, Value.int .i64 c.own, Value.bool has, Value.int .i64 ref, .slice Ar told.length cr] := rfl
      rw [e8]
      clear e8
      go_wp2_with fail
      obtain ⟨W, hW⟩ : ∃ W, W = w3.alloc (.cells #[Value.int .i64 first, Value.int .i64 c.day, Value.int .i64 leap, Value.int .i64 quorum, Value.int .i64 c.own, Value.bool has, Value.int .i64 ref, .slice Ar told.length cr] 28) := ⟨_, rfl⟩
      rw [← hW]
      have HW : Hid (Fr [] w W ∧ At W w3.heap.size 28 [Value.int .i64 first, Value.int .i64 c.day, Value.int .i64 leap, Value.int .i64 quorum, Value.int .i64 c.own, Value.bool has, Value.int .i64 ref, .slice Ar told.length cr] ∧ At W bc 57 c.cells) := by
        rw [hW]
        exact ⟨H3.out.1.alloc _, At.new _ _ _, H3.out.2.alloc _⟩
      clear hW
      have c1 : W.cell? ⟨w3.heap.size, 1, none⟩ = some (Value.int .i64 c.day) := by rw [HW.out.2.1.cell]; rfl
      have c4 : W.cell? ⟨w3.heap.size, 4, none⟩ = some (Value.int .i64 c.own) := by rw [HW.out.2.1.cell]; rfl
      have hx0 := run_str_x W.drew A cap D (H.out.fr0 HW.out.1.drew)
      go_region_with (first
        | (go_at_call 22; refine (encode_any bc c _ (by first | exact HW.out.2.2.drew | exact HW.out.2.2) HF.out.1).mono ?_; rintro e w4 ⟨v4, rfl, h4⟩; rw [HF.out.2] at h4; obtain ⟨A4, k4, rfl⟩ := ownsRow_form h4.own; replace HW : Hid (Fr [] w w4 ∧ At w4 w3.heap.size 28 [Value.int .i64 first, Value.int .i64 c.day, Value.int .i64 leap, Value.int .i64 quorum, Value.int .i64 c.own, Value.bool has, Value.int .i64 ref, .slice Ar told.length cr] ∧ At w4 bc 57 c.cells) := ⟨HW.out.1.drew.trans h4.fr, HW.out.2.1.drew.fr h4.fr (by simp), HW.out.2.2.drew.fr h4.fr (by simp)⟩; have hx1 := run_str_x w4 A4 k4 D (RowIn.of_owned h4.own); have hx2 := run_str_x w4 A cap D (H.out.fr0 HW.out.1); clear c1 c4 h4; have c1 : w4.cell? ⟨w3.heap.size, 1, none⟩ = some (Value.int .i64 c.day) := (by rw [HW.out.2.1.cell]; rfl); have c4 : w4.cell? ⟨w3.heap.size, 4, none⟩ = some (Value.int .i64 c.own) := (by rw [HW.out.2.1.cell]; rfl))
        | (go_at_call 13; refine (day_any bc c _ (by first | exact HW.out.2.2 | exact HW.out.2.2.drew)).mono ?_; rintro e w5 ⟨rfl, rfl⟩)
        | (go_at_call 15; refine (own_any bc c _ (by first | exact HW.out.2.2 | exact HW.out.2.2.drew)).mono ?_; rintro e w5 ⟨rfl, rfl⟩))
      all_goals
        go_wp2_with fail
        go_ret
        exact ⟨rfl, HW.out.1⟩
    · have h3 := decErr_bad D hD hend hv
      rw [if_neg (by rw [h3]; decide), h3] at he2
      subst he2
      have HE := Lib.hid (And.intro hend hv)
      clear hend hv h3
      go_wp2_with fail
      refine (refDecode_any A cap D _ hD (H.out.fr0 H2.out)).mono ?_
      rintro e w3 ⟨hf3, _, he3, _⟩
      have he3 := he3 HE.out.1 HE.out.2
      subst he3
      have H3 := Lib.hid (H2.out.trans hf3)
      clear hf3 H2
      have e8 : zClk.toArray = #[Value.int .i64 0, Value.int .i64 0, Value.int .i64 0, Value.int .i64 0, Value.int .i64 0, Value.bool false, Value.int .i64 0, .slice none 0 0] := rfl
      rw [e8]
      clear e8
      go_wp2_with fail
      go_ret
      exact ⟨rfl, H3.out.alloc _⟩
  · have h3 := decErr_end D hend
    rw [if_neg (by rw [h3]; exact hend), h3] at he2
    subst he2
    have q1 : ((rdec D).1.end_ != 0) = true := by simpa using hend
    have HE := Lib.hid hend
    clear hend h3
    go_wp2_with fail
    refine (refDecode_any A cap D _ hD (H.out.fr0 H2.out)).mono ?_
    rintro e w3 ⟨hf3, he3, _, _⟩
    have he3 := he3 HE.out
    subst he3
    have H3 := Lib.hid (H2.out.trans hf3)
    clear hf3 H2
    have e8 : zClk.toArray = #[Value.int .i64 0, Value.int .i64 0, Value.int .i64 0, Value.int .i64 0, Value.int .i64 0, Value.bool false, Value.int .i64 0, .slice none 0 0] := rfl
    rw [e8]
    clear e8
    go_wp2_with fail
    go_ret
    exact ⟨rfl, H3.out.alloc _⟩

theorem decodes_any (A : Option Addr) (cap : Nat) (D : List UInt8) (w : World) (hrow : RowIn w A (B8 D)) : Calls Try.prog 9 #[.slice A D.length cap] w (OkTrue w) := by
  by_cases hn : D.length ≤ 200
  · exact decodes_ok A cap D w hn hrow
  · exact decodes_long A D.length cap w (by omega)

end Go.Proofs.Ytflabbdnkoejjaa
