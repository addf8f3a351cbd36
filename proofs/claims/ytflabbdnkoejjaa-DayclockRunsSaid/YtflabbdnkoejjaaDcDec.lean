/- Contract of the clock's Decode. -/
import Derived.Test.YtflabbdnkoejjaaDcDecPlain
import Derived.Test.YtflabbdnkoejjaaDcInv
import Derived.Test.YtflabbdnkoejjaaDcRefNew
namespace Go.Proofs.Ytflabbdnkoejjaa
open Go.RowKit

set_option maxRecDepth 100000 in
set_option maxHeartbeats 2000000 in
theorem valid_any (b : Nat) (c : Clk) (w : World) (hc : At w b 57 c.cells) (hk : c.Ok) (hd : Fit64 c.day) (ho : Fit64 c.own) (ht : ∀ x ∈ c.told, 0 ≤ x ∧ x ≤ 999999) :
    Calls Try.prog 35 #[Value.pointer (some ⟨b, 0, none⟩)] w fun e w' => e = .returned (Value.bool c.valid) ∧ Fr [] w w' := by
  have h1 : w.cell? ⟨b, 1, none⟩ = some (Value.int .i64 c.day) := by rw [hc.cell]; rfl
  have h4 : w.cell? ⟨b, 4, none⟩ = some (Value.int .i64 c.own) := by rw [hc.cell]; rfl
  have d0 := hd.1
  have d1 := hd.2
  have o0 := ho.1
  have o1 := ho.2
  have H := Lib.hid (And.intro hc (And.intro hk ht))
  clear hc hk hd ho ht
  cases hr : c.ranges
  · have HR := Lib.hid hr
    clear hr
    go_enter Try.func35, Try.ntmps35
    go_wp2_with fail
    refine (ranges_any b c _ H.out.1).mono ?_
    rintro e w' ⟨rfl, rfl⟩
    rw [HR.out]
    go_wp2_with fail
    go_ret
    exact ⟨ret_bool (by simp [Clk.valid, HR.out]), Fr.refl _ _⟩
  · have hrr := (Clk.ranges_iff c).1 hr
    have HR := Lib.hid (And.intro hr hrr)
    clear hr hrr
    cases hdd : inDay c.day
    · have HD := Lib.hid hdd
      clear hdd
      go_enter Try.func35, Try.ntmps35
      go_wp2_with fail
      refine (ranges_any b c _ H.out.1).mono ?_
      rintro e w' ⟨rfl, rfl⟩
      rw [HR.out.1]
      go_wp2_with fail
      refine (validDay_any _ _).mono ?_
      rintro e w' ⟨rfl, rfl⟩
      rw [HD.out]
      go_wp2_with fail
      go_ret
      exact ⟨ret_bool (by simp [Clk.valid, HR.out.1, HD.out]), Fr.refl _ _⟩
    · have HD := Lib.hid hdd
      have hdr : 0 ≤ c.day ∧ c.day ≤ 999999 := by simpa [inDay] using hdd
      obtain ⟨e0, e1⟩ := hdr
      clear hdd
      by_cases hn : c.own < 0
      · have hnb : decide (c.own < 0) = true := by simpa using hn
        have HN := Lib.hid hn
        clear hn
        go_enter Try.func35, Try.ntmps35
        go_wp2_with fail
        refine (ranges_any b c _ H.out.1).mono ?_
        rintro e w' ⟨rfl, rfl⟩
        rw [HR.out.1]
        go_wp2_with fail
        refine (validDay_any _ _).mono ?_
        rintro e w' ⟨rfl, rfl⟩
        rw [HD.out]
        go_wp2_with fail
        go_ret
        refine ⟨ret_bool ?_, Fr.refl _ _⟩
        have : decide (0 ≤ c.own) = false := by simpa using HN.out
        simp [Clk.valid, this]
      · have hnb : decide (c.own < 0) = false := by simpa using hn
        have hs0 := c.first_le_sup HR.out.2.2.2.2.2.1
        have hf0 := HR.out.2.1
        have hs1 := c.sup_max HR.out.2.2.2.2.2.1 HR.out.2.2.1 H.out.2.2
        have HN := Lib.hid hn
        clear hn
        by_cases hsd : c.sup ≤ c.day
        · have hsb : decide (c.sup ≤ c.day) = true := by simpa using hsd
          go_enter Try.func35, Try.ntmps35
          go_wp2_with fail
          refine (ranges_any b c _ H.out.1).mono ?_
          rintro e w' ⟨rfl, rfl⟩
          rw [HR.out.1]
          go_wp2_with fail
          refine (validDay_any _ _).mono ?_
          rintro e w' ⟨rfl, rfl⟩
          rw [HD.out]
          go_wp2_with fail
          refine (supported_any b c _ H.out.1 H.out.2.1 HR.out.2.2.2.2.2.1 HR.out.2.2.2.2.2.2).mono ?_
          rintro e w1 ⟨rfl, hf1⟩
          have hat := H.out.1.fr hf1 (by simp)
          have g1 : w1.cell? ⟨b, 1, none⟩ = some (Value.int .i64 c.day) := by rw [hat.cell]; rfl
          have g4 : w1.cell? ⟨b, 4, none⟩ = some (Value.int .i64 c.own) := by rw [hat.cell]; rfl
          have H1 := Lib.hid hf1
          clear hf1 hat
          go_wp2_with fail
          go_quiet (fail)
          go_wp2_with fail
          go_ret
          refine ⟨ret_bool ?_, H1.out.drewN _⟩
          have : decide (0 ≤ c.own) = true := by have := HN.out; simp; omega
          simp [Clk.valid, this, HR.out.1, HD.out, hsd]
        · have hsb : decide (c.sup ≤ c.day) = false := by simpa using hsd
          go_enter Try.func35, Try.ntmps35
          go_wp2_with fail
          refine (ranges_any b c _ H.out.1).mono ?_
          rintro e w' ⟨rfl, rfl⟩
          rw [HR.out.1]
          go_wp2_with fail
          refine (validDay_any _ _).mono ?_
          rintro e w' ⟨rfl, rfl⟩
          rw [HD.out]
          go_wp2_with fail
          refine (supported_any b c _ H.out.1 H.out.2.1 HR.out.2.2.2.2.2.1 HR.out.2.2.2.2.2.2).mono ?_
          rintro e w1 ⟨rfl, hf1⟩
          have hat := H.out.1.fr hf1 (by simp)
          have g1 : w1.cell? ⟨b, 1, none⟩ = some (Value.int .i64 c.day) := by rw [hat.cell]; rfl
          have g4 : w1.cell? ⟨b, 4, none⟩ = some (Value.int .i64 c.own) := by rw [hat.cell]; rfl
          have H1 := Lib.hid hf1
          clear hf1 hat
          go_wp2_with fail
          go_quiet (fail)
          go_wp2_with fail
          go_ret
          refine ⟨ret_bool ?_, H1.out.drewN _⟩
          simp [Clk.valid, hsb]

end Go.Proofs.Ytflabbdnkoejjaa
