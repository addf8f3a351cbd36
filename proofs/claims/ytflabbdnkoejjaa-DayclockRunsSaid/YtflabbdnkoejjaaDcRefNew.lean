/- Contract of the specification's New of layer 25. -/
import Derived.Test.YtflabbdnkoejjaaDcWalk4
namespace Go.Proofs.Ytflabbdnkoejjaa
open Go.RowKit

theorem Clk.ranges_iff (c : Clk) : c.ranges = true ↔ 0 ≤ c.first ∧ c.first ≤ 999999 ∧ 0 ≤ c.leap ∧ c.leap ≤ 1000 ∧ 1 ≤ c.quorum ∧ c.quorum ≤ 12 := by
  simp [Clk.ranges, inDay, and_assoc]

set_option maxHeartbeats 2000000 in
theorem refNew_ok (d l q : Int) (w : World) (h : (Clk.new d l q).ranges = true) :
    Calls Try.prog 11 #[Value.int .i64 d, Value.int .i64 l, Value.int .i64 q] w fun e w' => e = .returned (.tuple #[.agg #[Value.int .i64 d, Value.int .i64 d, Value.int .i64 l, Value.int .i64 q, Value.int .i64 0, Value.bool false, Value.int .i64 0, .slice none 0 0], Value.int .i64 0]) ∧ Fr [] w w' := by
  obtain ⟨h0, h1, h2, h3, h4, h5⟩ : 0 ≤ d ∧ d ≤ 999999 ∧ 0 ≤ l ∧ l ≤ 1000 ∧ 1 ≤ q ∧ q ≤ 12 := (Clk.ranges_iff _).1 h
  clear h
  go_enter Try.func11, Try.ntmps11
  go_wp2
  exact bodyPost_ret (v := .tuple #[.agg #[Value.int .i64 d, Value.int .i64 d, Value.int .i64 l, Value.int .i64 q, Value.int .i64 0, Value.bool false, Value.int .i64 0, .slice none 0 0], Value.int .i64 0]) (by simp [results, Try.results11, go_sem]) rfl ⟨rfl, (Fr.refl _ _).alloc _⟩

set_option maxHeartbeats 2000000 in
theorem refNew_bad (d l q : Int) (w : World) (h : (Clk.new d l q).ranges = false) :
    Calls Try.prog 11 #[Value.int .i64 d, Value.int .i64 l, Value.int .i64 q] w fun e w' => e = .returned (.tuple #[.agg #[Value.int .i64 0, Value.int .i64 0, Value.int .i64 0, Value.int .i64 0, Value.int .i64 0, Value.bool false, Value.int .i64 0, .slice none 0 0], Value.int .i64 1]) ∧ Fr [] w w' := by
  have h' : d < 0 ∨ 999999 < d ∨ l < 0 ∨ 1000 < l ∨ q < 1 ∨ 12 < q := by
    by_cases c : d < 0 ∨ 999999 < d ∨ l < 0 ∨ 1000 < l ∨ q < 1 ∨ 12 < q
    · exact c
    · exfalso
      have : (Clk.new d l q).ranges = true := (Clk.ranges_iff _).2 (by simp only [Clk.new]; omega)
      rw [this] at h
      cases h
  clear h
  go_enter Try.func11, Try.ntmps11
  go_wp2
  all_goals exact bodyPost_ret (v := .tuple #[.agg #[Value.int .i64 0, Value.int .i64 0, Value.int .i64 0, Value.int .i64 0, Value.int .i64 0, Value.bool false, Value.int .i64 0, .slice none 0 0], Value.int .i64 1]) (by simp [results, Try.results11, go_sem]) rfl ⟨rfl, (Fr.refl _ _).alloc _⟩

end Go.Proofs.Ytflabbdnkoejjaa
