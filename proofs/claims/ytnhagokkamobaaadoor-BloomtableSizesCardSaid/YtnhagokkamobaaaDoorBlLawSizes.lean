/- The law BloomtableSizes, walked. -/
import Derived.Test.YtnhagokkamobaaaDoorBlRef1
namespace Go.Proofs.YtnhagokkamobaaaDoor
open Go.RowKit

theorem blSize_valid (n : Int) : isSz (blSize n) = true := by
  unfold isSz blSize
  simp only [Bool.and_eq_true, decide_eq_true_eq]
  split
  · decide
  · split
    · decide
    · omega

set_option maxRecDepth 100000 in
theorem lawSizes_any (n : Int) (w : World) (hv : Vars w) : Calls Tryd.prog 3 #[Value.int .i64 n] w fun e w' => e = .returned (.bool true) ∧ Fr [] w w' := by
  have HA := Lib.hid (awake_any w hv)
  clear hv
  obtain ⟨z, HZ⟩ : ∃ z, Hid (z = blSize n) := ⟨_, rfl⟩
  have H1 : Hid (∀ W, Calls Tryd.prog 14 #[Value.int .i64 n] W fun e w' => e = .returned (Value.int .i64 z) ∧ W = w') := fun W => by rw [HZ.out]; exact size_any n W
  have H2 : Hid (∀ W, Calls Tryd.prog 15 #[Value.int .i64 n] W fun e w' => e = .returned (Value.int .i64 z) ∧ W = w') := fun W => by rw [HZ.out]; exact refSize_any n W
  have H3 : Hid (∀ W, Calls Tryd.prog 16 #[Value.int .i64 z] W fun e w' => e = .returned (.bool true) ∧ W = w') := fun W => by
    have := valid_any z W
    rw [HZ.out, blSize_valid] at this
    rw [HZ.out]
    exact this
  go_enter Tryd.func3, Tryd.ntmps3
  go_wp2_with fail
  refine HA.out.mono ?_
  rintro e w1 ⟨rfl, hf1⟩
  go_wp2_with fail
  refine (H1.out w1).mono ?_
  rintro e w2 ⟨rfl, rfl⟩
  go_wp2_with fail
  refine (H2.out w1).mono ?_
  rintro e w2 ⟨rfl, rfl⟩
  go_wp2_with fail
  refine (H1.out w1).mono ?_
  rintro e w2 ⟨rfl, rfl⟩
  go_wp2_with fail
  refine (H3.out w1).mono ?_
  rintro e w2 ⟨rfl, rfl⟩
  go_wp2_with fail
  go_ret
  exact ⟨rfl, hf1⟩

end Go.Proofs.YtnhagokkamobaaaDoor
