/- Contracts of the small functions of package dayclock: each returns what the plain clock says, for every input. -/
import Derived.Test.YtflabbdnkoejjaaProg
import Derived.Test.YtflabbdnkoejjaaDcPlain
import Derived.Test.YtflabbdnkoejjaaLaws
namespace Go.Proofs.Ytflabbdnkoejjaa
open Go.RowKit


theorem validDay_any (d : Int) (w : World) :
    Calls Try.prog 29 #[Value.int .i64 d] w fun e w' => e = .returned (.bool (inDay d)) ∧ w = w' := by
  go_enter Try.func29, Try.ntmps29
  go_wp2
  all_goals
    go_ret
    refine ⟨ret_bool ?_, rfl⟩
    simp [inDay, *] <;> omega

theorem validDevice_any (d : Int) (w : World) :
    Calls Try.prog 28 #[Value.int .i64 d] w fun e w' => e = .returned (.bool (inDev d)) ∧ w = w' := by
  go_enter Try.func28, Try.ntmps28
  go_wp2
  all_goals
    go_ret
    refine ⟨ret_bool ?_, rfl⟩
    simp [inDev, *] <;> omega

set_option maxHeartbeats 400000 in
theorem day_any (b : Nat) (c : Clk) (w : World) (hc : At w b 57 c.cells) :
    Calls Try.prog 13 #[Value.pointer (some ⟨b, 0, none⟩)] w fun e w' => e = .returned (Value.int .i64 c.day) ∧ w = w' := by
  have h1 : w.cell? ⟨b, 1, none⟩ = some (Value.int .i64 c.day) := by rw [hc.cell]; rfl
  clear hc
  go_enter Try.func13, Try.ntmps13
  go_wp2
  go_ret
  exact ⟨rfl, rfl⟩

set_option maxHeartbeats 400000 in
theorem own_any (b : Nat) (c : Clk) (w : World) (hc : At w b 57 c.cells) :
    Calls Try.prog 15 #[Value.pointer (some ⟨b, 0, none⟩)] w fun e w' => e = .returned (Value.int .i64 c.own) ∧ w = w' := by
  have h1 : w.cell? ⟨b, 4, none⟩ = some (Value.int .i64 c.own) := by rw [hc.cell]; rfl
  clear hc
  go_enter Try.func15, Try.ntmps15
  go_wp2
  go_ret
  exact ⟨rfl, rfl⟩

set_option maxHeartbeats 1000000 in
theorem ranges_any (b : Nat) (c : Clk) (w : World) (hc : At w b 57 c.cells) :
    Calls Try.prog 26 #[Value.pointer (some ⟨b, 0, none⟩)] w fun e w' => e = .returned (.bool c.ranges) ∧ w = w' := by
  have h0 : w.cell? ⟨b, 0, none⟩ = some (Value.int .i64 c.first) := by rw [hc.cell]; rfl
  have h2 : w.cell? ⟨b, 2, none⟩ = some (Value.int .i64 c.leap) := by rw [hc.cell]; rfl
  have h3 : w.cell? ⟨b, 3, none⟩ = some (Value.int .i64 c.quorum) := by rw [hc.cell]; rfl
  clear hc
  go_enter Try.func26, Try.ntmps26
  go_wp2_with (go_at_call 29; refine (validDay_any _ _).mono ?_; rintro e w' ⟨rfl, rfl⟩)
  all_goals
    go_ret
    refine ⟨ret_bool ?_, rfl⟩
    simp [Clk.ranges, *] <;> omega

theorem Clk.new_at (d l q : Int) (w : World) : At (w.alloc (.cells #[Value.int .i64 d, Value.int .i64 d, Value.int .i64 l, Value.int .i64 q, Value.int .i64 0, Value.int .i64 0, Value.bool false, Value.int .i64 0, Value.int .i64 0, Value.int .i64 0, Value.int .i64 0, Value.int .i64 0, Value.int .i64 0, Value.int .i64 0, Value.int .i64 0, Value.int .i64 0, Value.int .i64 0, Value.int .i64 0, Value.int .i64 0, Value.bool false, Value.bool false, Value.bool false, Value.bool false, Value.bool false, Value.bool false, Value.bool false, Value.bool false, Value.bool false, Value.bool false, Value.bool false, Value.bool false] 57)) w.heap.size 57 (Clk.new d l q).cells :=
  At.new w 57 (Clk.new d l q).cells

set_option maxHeartbeats 1000000 in
theorem new_ok (d l q : Int) (w : World) (h : (Clk.new d l q).ranges = true) :
    Calls Try.prog 10 #[Value.int .i64 d, Value.int .i64 l, Value.int .i64 q] w fun e w' =>
      e = .returned (.tuple #[.pointer (some ⟨w.heap.size, 0, none⟩), Value.int .i64 0]) ∧ Fr [] w w' ∧ At w' w.heap.size 57 (Clk.new d l q).cells := by
  have hn := Clk.new_at d l q w
  have hf := (Fr.refl [] w).alloc (.cells (Clk.new d l q).cells.toArray 57)
  have H := Lib.hid (And.intro h (And.intro hf hn))
  clear h hf
  go_enter Try.func10, Try.ntmps10
  go_wp2_with (go_at_call 26; refine (ranges_any _ (Clk.new d l q) _ hn).mono ?_; rintro e w' ⟨rfl, rfl⟩; rw [H.out.1])
  go_ret2
  exact ⟨rfl, H.out.2⟩

set_option maxHeartbeats 1000000 in
theorem new_bad (d l q : Int) (w : World) (h : (Clk.new d l q).ranges = false) :
    Calls Try.prog 10 #[Value.int .i64 d, Value.int .i64 l, Value.int .i64 q] w fun e w' => e = .returned (.tuple #[.pointer none, Value.int .i64 1]) ∧ Fr [] w w' := by
  have hn := Clk.new_at d l q w
  have hf := (Fr.refl [] w).alloc (.cells (Clk.new d l q).cells.toArray 57)
  have H := Lib.hid (And.intro h hf)
  clear h hf
  go_enter Try.func10, Try.ntmps10
  go_wp2_with (go_at_call 26; refine (ranges_any _ (Clk.new d l q) _ hn).mono ?_; rintro e w' ⟨rfl, rfl⟩; rw [H.out.1])
  go_ret2
  exact ⟨rfl, H.out.2⟩

end Go.Proofs.Ytflabbdnkoejjaa
