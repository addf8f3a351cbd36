/- DayclockNew returns true for every input: New returns a clock at the day, or its error. No condition. -/
import Derived.Test.YtflabbdnkoejjaaDcAwake
import Derived.Test.YtflabbdnkoejjaaDcRefNew
import Derived.Test.YtflabbdnkoejjaaLaw
namespace Go.Proofs.Ytflabbdnkoejjaa
open Go.ChangeShapes Go.WideShapes Go.ChangeAt Go.RowKit

theorem Clk.new_ok (d l q : Int) : (Clk.new d l q).Ok := ⟨rfl, rfl⟩
theorem Clk.new_sup (d l q : Int) (h : 1 ≤ q) : (Clk.new d l q).sup = d := by
  have hd : (Clk.new d l q).days 12 = [] := rfl
  unfold Clk.sup
  rw [hd]
  rw [if_pos (by simp [Clk.new]; omega)]
  rfl

set_option maxHeartbeats 4000000 in
set_option maxRecDepth 100000 in
theorem lawNew_ok (d l q : Int) (w : World) (h : (Clk.new d l q).ranges = true) : Calls Try.prog 3 #[Value.int .i64 d, Value.int .i64 l, Value.int .i64 q] w (OkTrue w) := by
  obtain ⟨h0, h1, h2, h3, h4, h5⟩ : 0 ≤ d ∧ d ≤ 999999 ∧ 0 ≤ l ∧ l ≤ 1000 ∧ 1 ≤ q ∧ q ≤ 12 := (Clk.ranges_iff _).1 h
  have H := Lib.hid h
  clear h
  go_enter Try.func3, Try.ntmps3
  go_wp2_with fail
  refine (new_ok d l q _ H.out).mono ?_
  rintro e w0 ⟨rfl, hf0, ha0⟩
  have H0 : Hid (Fr [] w w0 ∧ At w0 w.heap.size 57 (Clk.new d l q).cells) := ⟨hf0, ha0⟩
  clear hf0 ha0
  go_wp2_with fail
  refine (refNew_ok d l q _ H.out).mono ?_
  rintro e w1 ⟨rfl, hf1⟩
  have H1 : Hid (Fr [] w w1 ∧ At w1 w.heap.size 57 (Clk.new d l q).cells) := ⟨H0.out.1.trans hf1, H0.out.2.fr hf1 (by simp)⟩
  clear hf1 H0
  go_wp2_with fail
  refine (awake_any _).mono ?_
  rintro e w2 ⟨rfl, hf2⟩
  have H2 : Hid (Fr [] w w2 ∧ At w2 w.heap.size 57 (Clk.new d l q).cells) := ⟨(H1.out.1.alloc _).trans hf2, (H1.out.2.alloc _).fr hf2 (by simp)⟩
  clear hf2 H1
  go_wp2_with fail
  refine (day_any _ _ _ H2.out.2).mono ?_
  rintro e w' ⟨rfl, rfl⟩
  rw [show (Clk.new d l q).day = d from rfl]
  go_wp2_with fail
  refine (supported_any _ (Clk.new d l q) _ H2.out.2 (Clk.new_ok d l q) h4 h5).mono ?_
  rintro e w3 ⟨rfl, hf3⟩
  rw [Clk.new_sup d l q h4]
  have H3 : Hid (Fr [] w w3 ∧ At w3 w.heap.size 57 (Clk.new d l q).cells) := ⟨H2.out.1.trans hf3, H2.out.2.fr hf3 (by simp)⟩
  clear hf3 H2
  go_wp2_with fail
  refine (own_any _ _ _ H3.out.2).mono ?_
  rintro e w' ⟨rfl, rfl⟩
  rw [show (Clk.new d l q).own = 0 from rfl]
  go_wp2_with fail
  go_ret
  exact ⟨rfl, H3.out.1⟩

set_option maxHeartbeats 4000000 in
set_option maxRecDepth 100000 in
theorem lawNew_bad (d l q : Int) (w : World) (h : (Clk.new d l q).ranges = false) : Calls Try.prog 3 #[Value.int .i64 d, Value.int .i64 l, Value.int .i64 q] w (OkTrue w) := by
  have H := Lib.hid h
  clear h
  go_enter Try.func3, Try.ntmps3
  go_wp2_with fail
  refine (new_bad d l q _ H.out).mono ?_
  rintro e w0 ⟨rfl, hf0⟩
  have H0 := Lib.hid hf0
  clear hf0
  go_wp2_with fail
  refine (refNew_bad d l q _ H.out).mono ?_
  rintro e w1 ⟨rfl, hf1⟩
  have H1 := Lib.hid (H0.out.trans hf1)
  clear hf1 H0
  go_wp2_with fail
  refine (awake_any _).mono ?_
  rintro e w2 ⟨rfl, hf2⟩
  have H2 := Lib.hid ((H1.out.alloc _).trans hf2)
  clear hf2 H1
  go_wp2_with fail
  go_ret
  exact ⟨rfl, H2.out⟩

theorem lawNew_any (d l q : Int) (w : World) : Calls Try.prog 3 #[Value.int .i64 d, Value.int .i64 l, Value.int .i64 q] w (OkTrue w) := by
  cases h : (Clk.new d l q).ranges
  · exact lawNew_bad d l q w h
  · exact lawNew_ok d l q w h

end Go.Proofs.Ytflabbdnkoejjaa
