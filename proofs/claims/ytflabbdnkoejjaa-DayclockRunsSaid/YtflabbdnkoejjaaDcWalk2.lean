/- Contract of the clock's Read: it takes a reading as the plain clock does. -/
import Derived.Test.YtflabbdnkoejjaaDcWalk1
import Derived.BigQuiet
import Derived.Deep.QuietTactic
namespace Go.Proofs.Ytflabbdnkoejjaa
open Go.RowKit

theorem Clk.set1 (c : Clk) (x : Int) : c.cells.set 1 (Value.int .i64 x) = ({ c with day := x } : Clk).cells := rfl
theorem Clk.set4 (c : Clk) (x : Int) : c.cells.set 4 (Value.int .i64 x) = ({ c with own := x } : Clk).cells := rfl
theorem Clk.set5 (c : Clk) (x : Int) : c.cells.set 5 (Value.int .i64 x) = ({ c with ref := x } : Clk).cells := rfl
theorem Clk.set6 (c : Clk) (x : Bool) : c.cells.set 6 (Value.bool x) = ({ c with read := x } : Clk).cells := rfl

theorem u64_diff (a b : Int) (h0 : b ≤ a) (h1 : a ≤ 9223372036854775807) (h2 : -9223372036854775808 ≤ b) : IntKind.u64.wrap (IntKind.u64.wrap a - IntKind.u64.wrap b) = a - b := by
  simp only [IntKind.wrap_u64]
  omega

theorem read_fin0 (c : Clk) (b : Nat) (w : World) (n : Nat) (wall : Int) (hc : At w b 57 c.cells) :
    Fr [b] w ((((w.setCell ⟨b, 5, none⟩ (Value.int .i64 wall)).setCell ⟨b, 6, none⟩ (Value.bool true))).drewN n) ∧ At ((((w.setCell ⟨b, 5, none⟩ (Value.int .i64 wall)).setCell ⟨b, 6, none⟩ (Value.bool true))).drewN n) b 57 ({ c with ref := wall, read := true } : Clk).cells := by
  refine ⟨((((Fr.refl _ _).setCell (.inl (by simp)) _).setCell (.inl (by simp)) _).drewN n), ?_⟩
  have h := ((hc.set 5 (Value.int .i64 wall)).set 6 (Value.bool true)).drewN n
  rwa [Clk.set5, Clk.set6] at h

theorem read_fin1 (c : Clk) (b : Nat) (w : World) (n : Nat) (wall s o : Int) (hc : At w b 57 c.cells) (hs : c.step wall = s) (ho : o = min c.own (9223372036854775807 - s) + s) :
    Fr [b] w ((((((w.setCell ⟨b, 1, none⟩ (Value.int .i64 (c.day + s))).setCell ⟨b, 4, none⟩ (Value.int .i64 o)).setCell ⟨b, 5, none⟩ (Value.int .i64 wall)).setCell ⟨b, 6, none⟩ (Value.bool true))).drewN n) ∧ At ((((((w.setCell ⟨b, 1, none⟩ (Value.int .i64 (c.day + s))).setCell ⟨b, 4, none⟩ (Value.int .i64 o)).setCell ⟨b, 5, none⟩ (Value.int .i64 wall)).setCell ⟨b, 6, none⟩ (Value.bool true))).drewN n) b 57 (c.rd wall).cells := by
  refine ⟨((((((Fr.refl _ _).setCell (.inl (by simp)) _).setCell (.inl (by simp)) _).setCell (.inl (by simp)) _).setCell (.inl (by simp)) _).drewN n), ?_⟩
  have h := ((((hc.set 1 (Value.int .i64 (c.day + s))).set 4 (Value.int .i64 o)).set 5 (Value.int .i64 wall)).set 6 (Value.bool true)).drewN n
  rw [Clk.set1, Clk.set4, Clk.set5, Clk.set6] at h
  unfold Clk.rd
  rw [hs, ← ho]
  exact h

set_option maxHeartbeats 1000000 in
theorem read_no0 (b : Nat) (c : Clk) (w : World) (wall : Int) (hc : At w b 57 c.cells) (hr : c.read = false) :
    Calls Try.prog 16 #[Value.pointer (some ⟨b, 0, none⟩), Value.int .i64 wall] w fun e w' => e = .returned (Value.int .i64 c.day) ∧ Fr [b] w w' ∧ At w' b 57 ({ c with ref := wall, read := true } : Clk).cells := by
  have h1 : w.cell? ⟨b, 1, none⟩ = some (Value.int .i64 c.day) := by rw [hc.cell]; rfl
  have h2 : w.cell? ⟨b, 2, none⟩ = some (Value.int .i64 c.leap) := by rw [hc.cell]; rfl
  have h4 : w.cell? ⟨b, 4, none⟩ = some (Value.int .i64 c.own) := by rw [hc.cell]; rfl
  have h5 : w.cell? ⟨b, 5, none⟩ = some (Value.int .i64 c.ref) := by rw [hc.cell]; rfl
  have h6 : w.cell? ⟨b, 6, none⟩ = some (Value.bool false) := by rw [hc.cell, ← hr]; rfl
  have hz := fun i => hc.frozen i
  have H := Lib.hid hc
  clear hc hr
  go_enter Try.func16, Try.ntmps16
  go_wp2
  go_quiet (fail)
  go_wp2
  go_ret
  exact ⟨rfl, read_fin0 c b w _ wall H.out⟩

set_option maxHeartbeats 1000000 in
theorem read_no1 (b : Nat) (c : Clk) (w : World) (wall : Int) (hc : At w b 57 c.cells) (hr : c.read = true) (hlt : wall < c.ref) :
    Calls Try.prog 16 #[Value.pointer (some ⟨b, 0, none⟩), Value.int .i64 wall] w fun e w' => e = .returned (Value.int .i64 c.day) ∧ Fr [b] w w' ∧ At w' b 57 ({ c with ref := wall, read := true } : Clk).cells := by
  have h1 : w.cell? ⟨b, 1, none⟩ = some (Value.int .i64 c.day) := by rw [hc.cell]; rfl
  have h2 : w.cell? ⟨b, 2, none⟩ = some (Value.int .i64 c.leap) := by rw [hc.cell]; rfl
  have h4 : w.cell? ⟨b, 4, none⟩ = some (Value.int .i64 c.own) := by rw [hc.cell]; rfl
  have h5 : w.cell? ⟨b, 5, none⟩ = some (Value.int .i64 c.ref) := by rw [hc.cell]; rfl
  have h6 : w.cell? ⟨b, 6, none⟩ = some (Value.bool true) := by rw [hc.cell, ← hr]; rfl
  have hz := fun i => hc.frozen i
  have H := Lib.hid hc
  clear hc hr
  have hd : decide (c.ref ≤ wall) = false := by simpa using hlt
  go_enter Try.func16, Try.ntmps16
  go_wp2
  go_quiet (fail)
  go_wp2
  go_ret
  exact ⟨rfl, read_fin0 c b w _ wall H.out⟩

set_option maxHeartbeats 1000000 in
theorem read_no2 (b : Nat) (c : Clk) (w : World) (wall : Int) (hc : At w b 57 c.cells) (hr : c.read = true) (hlt : c.ref ≤ wall) (hgt : c.leap < wall - c.ref)
    (hl0 : 0 ≤ c.leap) (hl1 : c.leap ≤ 1000) (hw0 : -9223372036854775808 ≤ c.ref) (hw1 : wall ≤ 9223372036854775807) :
    Calls Try.prog 16 #[Value.pointer (some ⟨b, 0, none⟩), Value.int .i64 wall] w fun e w' => e = .returned (Value.int .i64 c.day) ∧ Fr [b] w w' ∧ At w' b 57 ({ c with ref := wall, read := true } : Clk).cells := by
  have h1 : w.cell? ⟨b, 1, none⟩ = some (Value.int .i64 c.day) := by rw [hc.cell]; rfl
  have h2 : w.cell? ⟨b, 2, none⟩ = some (Value.int .i64 c.leap) := by rw [hc.cell]; rfl
  have h4 : w.cell? ⟨b, 4, none⟩ = some (Value.int .i64 c.own) := by rw [hc.cell]; rfl
  have h5 : w.cell? ⟨b, 5, none⟩ = some (Value.int .i64 c.ref) := by rw [hc.cell]; rfl
  have h6 : w.cell? ⟨b, 6, none⟩ = some (Value.bool true) := by rw [hc.cell, ← hr]; rfl
  have hz := fun i => hc.frozen i
  have H := Lib.hid hc
  clear hc hr
  have hd : decide (IntKind.u64.wrap (IntKind.u64.wrap wall - IntKind.u64.wrap c.ref) ≤ c.leap) = false := by
    rw [u64_diff _ _ hlt hw1 hw0]; simpa using hgt
  go_enter Try.func16, Try.ntmps16
  go_wp2
  go_quiet (fail)
  go_wp2
  go_ret
  exact ⟨rfl, read_fin0 c b w _ wall H.out⟩

set_option maxHeartbeats 1000000 in
theorem read_yes (b : Nat) (c : Clk) (w : World) (wall : Int) (hc : At w b 57 c.cells) (hr : c.read = true) (hlt : c.ref ≤ wall) (hgt : wall - c.ref ≤ c.leap)
    (hl0 : 0 ≤ c.leap) (hl1 : c.leap ≤ 1000) (hw0 : -9223372036854775808 ≤ c.ref) (hw1 : wall ≤ 9223372036854775807)
    (hd0 : 0 ≤ c.day) (hd1 : c.day ≤ 999999) (ho0 : 0 ≤ c.own) (ho1 : c.own ≤ 9223372036854775807) :
    Calls Try.prog 16 #[Value.pointer (some ⟨b, 0, none⟩), Value.int .i64 wall] w fun e w' => e = .returned (Value.int .i64 (c.rd wall).day) ∧ Fr [b] w w' ∧ At w' b 57 (c.rd wall).cells := by
  have h1 : w.cell? ⟨b, 1, none⟩ = some (Value.int .i64 c.day) := by rw [hc.cell]; rfl
  have h2 : w.cell? ⟨b, 2, none⟩ = some (Value.int .i64 c.leap) := by rw [hc.cell]; rfl
  have h4 : w.cell? ⟨b, 4, none⟩ = some (Value.int .i64 c.own) := by rw [hc.cell]; rfl
  have h5 : w.cell? ⟨b, 5, none⟩ = some (Value.int .i64 c.ref) := by rw [hc.cell]; rfl
  have h6 : w.cell? ⟨b, 6, none⟩ = some (Value.bool true) := by rw [hc.cell, ← hr]; rfl
  have hz := fun i => hc.frozen i
  have H := Lib.hid (And.intro hc hr)
  clear hc hr
  have hd : decide (IntKind.u64.wrap (IntKind.u64.wrap wall - IntKind.u64.wrap c.ref) ≤ c.leap) = true := by
    rw [u64_diff _ _ hlt hw1 hw0]; simpa using hgt
  go_enter Try.func16, Try.ntmps16
  go_wp2
  go_quiet (fail)
  clear hd
  go_wp2
  go_region
  generalize hs : (if 999999 - c.day < wall - c.ref then 999999 - c.day else wall - c.ref) = s
  have hs' : c.step wall = s := by
    unfold Clk.step
    rw [if_pos ⟨H.out.2, hlt, hgt⟩, ← hs]
    by_cases h : 999999 - c.day < wall - c.ref
    · rw [if_pos h]; omega
    · rw [if_neg h]; omega
  have b0 : 0 ≤ s := by rw [← hs]; split <;> omega
  have b1 : s ≤ 1000 := by rw [← hs]; split <;> omega
  have b2 : s ≤ 999999 - c.day := by rw [← hs]; split <;> omega
  have HS := Lib.hid hs'
  clear hs hs'
  go_wp2
  all_goals
    go_ret
    refine ⟨ret_int ?_, read_fin1 c b w _ wall s _ H.out.1 HS.out ?_⟩
    · unfold Clk.rd; rw [HS.out]
    · omega

/-- Read, whatever the reading. -/
theorem read_any (b : Nat) (c : Clk) (w : World) (wall : Int) (hc : At w b 57 c.cells)
    (hl0 : 0 ≤ c.leap) (hl1 : c.leap ≤ 1000) (hw0 : -9223372036854775808 ≤ c.ref) (hw1 : wall ≤ 9223372036854775807)
    (hd0 : 0 ≤ c.day) (hd1 : c.day ≤ 999999) (ho0 : 0 ≤ c.own) (ho1 : c.own ≤ 9223372036854775807) :
    Calls Try.prog 16 #[Value.pointer (some ⟨b, 0, none⟩), Value.int .i64 wall] w fun e w' => e = .returned (Value.int .i64 (c.rd wall).day) ∧ Fr [b] w w' ∧ At w' b 57 (c.rd wall).cells := by
  by_cases hy : c.read = true ∧ c.ref ≤ wall ∧ wall - c.ref ≤ c.leap
  · exact read_yes b c w wall hc hy.1 hy.2.1 hy.2.2 hl0 hl1 hw0 hw1 hd0 hd1 ho0 ho1
  · have e : c.rd wall = { c with ref := wall, read := true } := by
      have hs : c.step wall = 0 := if_neg hy
      have ho : min c.own (9223372036854775807 - 0) + 0 = c.own := by omega
      unfold Clk.rd
      rw [hs, ho, Int.add_zero]
    rw [e]
    by_cases h1 : c.read = true
    · by_cases h2 : c.ref ≤ wall
      · exact read_no2 b c w wall hc h1 h2 (Int.not_le.1 fun h => hy ⟨h1, h2, h⟩) hl0 hl1 hw0 hw1
      · exact read_no1 b c w wall hc h1 (by omega)
    · exact read_no0 b c w wall hc (by simpa using h1)

end Go.Proofs.Ytflabbdnkoejjaa
